/- What is proved here: each Go function that is named below answers, and leaves memory, as the theorem of its name says; no condition beyond those that each theorem states. Laid by this session's own program (wip/driver.py) over the kit's print. -/
import Derived.Test.YtldkbeccpheckabPFnExactSplitRopex0
import Derived.Test.YtldkbeccpheckabPFnExactSplitRopex3
namespace Go.Proofs.Ytldkbeccpheckab.PFnExactSplitRope
open Go.RowKit Go.Proofs.YtldkbeccpheckabW.PrintWords Go.Proofs.YtldkbeccpheckabW.PrintLast Go.Proofs.YtldkbeccpheckabW.PrintMore
attribute [local go_sem] max2_int min2_int max_two min_two max_three min_three max_four min_four   -- for this text's walks alone
set_option linter.unusedVariables false
set_option linter.unusedSimpArgs false

open Go.Proofs.Ytldkbeccpheckab.Cp
/-! ### spec_l7Split: function 99 -/
mutual
def spec_l7Split.l0 : Nat → Int → Int → Int → List (S61) → List (S61) → List (S61) → Option ((List (S61)) × (List (S61)))
 | 0, _, _, _, _, _, _ => none
 | k + 1, x1, x8, x9, x200000, x209000, x210000 => if x9 < (x200000.length : Int) then (if 0 ≤ x9 then (if (wrap64 (x8 + ((rd_T61 x200000 x9).f2))) ≤ x1 then (if ((rd_T61 x200000 x9).f2) > 0 then (spec_l7Split.j1 k x1 x8 x9 true x200000 x209000 x210000 ((rd_T61 x200000 x9).f0) ((rd_T61 x200000 x9).f1) ((rd_T61 x200000 x9).f2) ((rd_T61 x200000 x9).f3)) else (if x8 < x1 then (spec_l7Split.j1 k x1 x8 x9 true x200000 x209000 x210000 ((rd_T61 x200000 x9).f0) ((rd_T61 x200000 x9).f1) ((rd_T61 x200000 x9).f2) ((rd_T61 x200000 x9).f3)) else ((spec_l7Length.f k x200000).bind fun t212 => (spec_l7Split.j1 k x1 x8 x9 (x1 == t212) x200000 x209000 x210000 ((rd_T61 x200000 x9).f0) ((rd_T61 x200000 x9).f1) ((rd_T61 x200000 x9).f2) ((rd_T61 x200000 x9).f3))))) else (spec_l7Split.j1 k x1 x8 x9 false x200000 x209000 x210000 ((rd_T61 x200000 x9).f0) ((rd_T61 x200000 x9).f1) ((rd_T61 x200000 x9).f2) ((rd_T61 x200000 x9).f3))) else (none)) else (some (x209000, x210000))
def spec_l7Split.j1 : Nat → Int → Int → Int → Bool → List (S61) → List (S61) → List (S61) → Int → Int → Int → Int → Option ((List (S61)) × (List (S61)))
 | 0, _, _, _, _, _, _, _, _, _, _, _ => none
 | k + 1, x1, x8, x9, x54, x200000, x209000, x210000, x212000, x212001, x212002, x212003 => if x54 = true then (if x209000.length < 4398046511104 then (spec_l7Split.l0 k x1 (wrap64 (x8 + x212002)) (wrap64 (x9 + 1)) x200000 (x209000 ++ [(⟨x212000, x212001, x212002, x212003⟩ : S61)]) x210000) else (none)) else (if x8 ≥ x1 then (if x210000.length < 4398046511104 then (spec_l7Split.l0 k x1 (wrap64 (x8 + x212002)) (wrap64 (x9 + 1)) x200000 x209000 (x210000 ++ [(⟨x212000, x212001, x212002, x212003⟩ : S61)])) else (none)) else ((spec_l2Slice.f x212000 x212001 x212002 x212003 0 (wrap64 (x1 - x8)) (wrap64 (x1 - x8))).bind fun bt219 => (if x209000.length < 4398046511104 then ((spec_l2Slice.f x212000 x212001 x212002 x212003 (wrap64 (x1 - x8)) x212002 x212003).bind fun bt226 => (if x210000.length < 4398046511104 then (spec_l7Split.l0 k x1 (wrap64 (x8 + x212002)) (wrap64 (x9 + 1)) x200000 (x209000 ++ [(⟨bt219.1, bt219.2.1, bt219.2.2.1, bt219.2.2.2⟩ : S61)]) (x210000 ++ [(⟨bt226.1, bt226.2.1, bt226.2.2.1, bt226.2.2.2⟩ : S61)])) else (none))) else (none))))
end
def spec_l7Split.f (k : Nat) (l0_0 : List (S61)) (a1 : Int) : Option ((List (S61)) × (List (S61))) := spec_l7Split.l0 k a1 0 0 l0_0 (([] : List (S61))) (([] : List (S61)))
theorem spec_l7Split.mono_l : ∀ k, (∀ y0 y1 y2 y3 y4 y5, LeO (spec_l7Split.l0 k y0 y1 y2 y3 y4 y5) (spec_l7Split.l0 (k + 1) y0 y1 y2 y3 y4 y5)) ∧ (∀ y0 y1 y2 y3 y4 y5 y6 y7 y8 y9 y10, LeO (spec_l7Split.j1 k y0 y1 y2 y3 y4 y5 y6 y7 y8 y9 y10) (spec_l7Split.j1 (k + 1) y0 y1 y2 y3 y4 y5 y6 y7 y8 y9 y10))
 | 0 => ⟨fun _ _ _ _ _ _ r h => by simp [spec_l7Split.l0] at h, fun _ _ _ _ _ _ _ _ _ _ _ r h => by simp [spec_l7Split.j1] at h⟩
 | k + 1 => by
  obtain ⟨ih0, ih1⟩ := spec_l7Split.mono_l k
  refine ⟨?_, ?_⟩
  ·intro y0 y1 y2 y3 y4 y5
   unfold spec_l7Split.l0
   repeat' first
   | (with_reducible exact ih0 _ _ _ _ _ _)
   | (with_reducible exact ih1 _ _ _ _ _ _ _ _ _ _ _)
   | (with_reducible exact spec_l7Length.mono _ _)
   | (with_reducible exact LeO.refl _)
   | (with_reducible exact LeO.none _)
   | (with_reducible refine LeO.ite ?_ ?_)
   | (with_reducible refine LeO.bind ?_ (fun _ => ?_))
   | exact ih0 _ _ _ _ _ _
   | exact ih1 _ _ _ _ _ _ _ _ _ _ _
   | exact spec_l7Length.mono _ _
   | exact LeO.none _
   | refine LeO.ite ?_ ?_
   | refine LeO.bind ?_ (fun _ => ?_)
  ·intro y0 y1 y2 y3 y4 y5 y6 y7 y8 y9 y10
   unfold spec_l7Split.j1
   repeat' first
   | (with_reducible exact ih0 _ _ _ _ _ _)
   | (with_reducible exact ih1 _ _ _ _ _ _ _ _ _ _ _)
   | (with_reducible exact spec_l7Length.mono _ _)
   | (with_reducible exact LeO.refl _)
   | (with_reducible exact LeO.none _)
   | (with_reducible refine LeO.ite ?_ ?_)
   | (with_reducible refine LeO.bind ?_ (fun _ => ?_))
   | exact ih0 _ _ _ _ _ _
   | exact ih1 _ _ _ _ _ _ _ _ _ _ _
   | exact spec_l7Length.mono _ _
   | exact LeO.none _
   | refine LeO.ite ?_ ?_
   | refine LeO.bind ?_ (fun _ => ?_)
theorem spec_l7Split.mono : ∀ a0 a1 k, LeO (spec_l7Split.f k a0 a1) (spec_l7Split.f (k + 1) a0 a1) := by
 intro a0 a1 k
 obtain ⟨ih0, ih1⟩ := spec_l7Split.mono_l k
 unfold spec_l7Split.f
 repeat' first
   | (with_reducible exact ih0 _ _ _ _ _ _)
   | (with_reducible exact ih1 _ _ _ _ _ _ _ _ _ _ _)
   | (with_reducible exact spec_l7Length.mono _ _)
   | (with_reducible exact LeO.refl _)
   | (with_reducible exact LeO.none _)
   | (with_reducible refine LeO.ite ?_ ?_)
   | (with_reducible refine LeO.bind ?_ (fun _ => ?_))
   | exact ih0 _ _ _ _ _ _
   | exact ih1 _ _ _ _ _ _ _ _ _ _ _
   | exact spec_l7Length.mono _ _
   | exact LeO.none _
   | refine LeO.ite ?_ ?_
   | refine LeO.bind ?_ (fun _ => ?_)
def spec_l7Split.T7 : Bool × List (List Nat × List Nat) := (true, [([], []), ([0], [0]), ([], []), ([], []), ([], []), ([3, 4], [3, 4]), ([], []), ([], []), ([6, 7], [6, 7]), ([2, 5, 8], [2, 5, 8]), ([9], [9]), ([1, 10, 9], [1, 10]), ([0, 1, 2, 3, 4, 5, 6, 7, 8, 9, 10, 11], []), ([12, 11, 11, 0, 1, 2, 3, 4, 5, 6, 7, 8, 9, 10, 11], [11, 12])])
def spec_l7Split.B7 : List Nat := [0, 1, 0, 0, 0, 24, 0, 0, 192, 508, 1020, 2047, 4095, 8191]
theorem spec_l7Split.tab7 : rtab .any (opsOf Try.f99 7) = spec_l7Split.T7 := by kernel_rfl
theorem spec_l7Split.bits7 : waitsOk spec_l7Split.T7.2 spec_l7Split.B7 = true := by kernel_rfl
def spec_l7Split.T8 : Bool × List (List Nat × List Nat) := (true, [([], []), ([0], [0]), ([], []), ([], []), ([], []), ([3, 4], [3, 4]), ([], []), ([6], [6]), ([], []), ([8], [8]), ([2, 5, 7, 9], [2, 5, 7, 9]), ([10], [10]), ([1, 11, 10], [1, 11]), ([0, 1, 2, 3, 4, 5, 6, 7, 8, 9, 10, 11, 12], []), ([13, 12, 12, 0, 1, 2, 3, 4, 5, 6, 7, 8, 9, 10, 11, 12], [12, 13])])
def spec_l7Split.B8 : List Nat := [0, 1, 0, 0, 0, 24, 0, 64, 0, 256, 1020, 2044, 4095, 8191, 16383]
theorem spec_l7Split.tab8 : rtab .any (opsOf Try.f99 8) = spec_l7Split.T8 := by kernel_rfl
theorem spec_l7Split.bits8 : waitsOk spec_l7Split.T8.2 spec_l7Split.B8 = true := by kernel_rfl
set_option maxHeartbeats 8000000 in
set_option maxRecDepth 100000 in
theorem spec_l7Split.calls (k : Nat) (A0_0 : Option Addr) (c0_0 : Nat) (l0_0 : List (S61)) (a1 : Int) (r1 : List (S61)) (r2 : List (S61)) (w : World) (hr0_0 : Kd.C k61 w A0_0 l0_0.length l0_0) (hc0_0 : l0_0.length ≤ c0_0) (h : spec_l7Split.f k l0_0 a1 = some (r1, r2)) :
  Calls Try.prog 99 #[.agg #[.slice A0_0 l0_0.length c0_0], .int .i64 a1] w fun e w' => ∃ v0_ v1_ : Value, e = .returned (.tuple #[.agg #[v0_], .agg #[v1_]]) ∧ Kd.R k61 61 w' w.heap.size (fun k_ => some k_ ≠ (v1_ : Value).ownBlock) v0_ r1 ∧ Kd.R k61 61 w' w.heap.size (fun k_ => some k_ ≠ (v0_ : Value).ownBlock) v1_ r2 ∧ Below w.heap.size w w' := by
 have hu32 := Try.underlying32
 have hu61 := Try.underlying61
 have HR0_0 := Aside0.mk hr0_0
 have HC0_0 := Aside0.mk hc0_0
 clear hr0_0 hc0_0
 have HB := Aside0.mk (Below.refl w.heap.size w)
 have H : (spec_l7Split.l0 k a1 0 0 l0_0 (([] : List (S61))) (([] : List (S61)))) = some (r1, r2) := h
 clear h
 obtain ⟨y202, hy202⟩ : ∃ y_ : List (S61), y_ = (([] : List (S61))) := ⟨_, rfl⟩
 replace H : (spec_l7Split.l0 k a1 0 0 l0_0 y202 (([] : List (S61)))) = some (r1, r2) := by first | (rw [hy202]; with_reducible exact H) | (have H2_ := (Option.bind_some _ _).symm.trans H; rw [hy202]; with_reducible exact H2_) | (have H2_ := (Option.bind_some _ _).symm.trans H; with_reducible exact H2_) | with_reducible exact H | (rw [hy202]; exact H) | exact H
 have Ny202 := Aside0.mk hy202
 clear hy202
 obtain ⟨y205, hy205⟩ : ∃ y_ : List (S61), y_ = (([] : List (S61))) := ⟨_, rfl⟩
 replace H : (spec_l7Split.l0 k a1 0 0 l0_0 y202 y205) = some (r1, r2) := by first | (rw [hy205]; with_reducible exact H) | (have H2_ := (Option.bind_some _ _).symm.trans H; rw [hy205]; with_reducible exact H2_) | (have H2_ := (Option.bind_some _ _).symm.trans H; with_reducible exact H2_) | with_reducible exact H | (rw [hy205]; exact H) | exact H
 have Ny205 := Aside0.mk hy205
 clear hy205
 have H' := Aside0.mk H
 clear H
 go_enter Try.func99, Try.ntmps99
 go_wp2_with (first | ((with_reducible refine gate_dst (N := 2) rfl ?_); refine box_event ?hg (N := 2) ?hd (cs := #[.slice A0_0 l0_0.length c0_0]) (t := 32) ?hr ?_; (case hd => rfl); (case hg => rfl); (case hr => first | (go_simp; done) | (go_simp; rfl)); intro gb199 hg w3 hbox hb; have BK199 := Aside0.mk (hbox); have GW199 := zge HB hg; have GE199 := zge HB hg; replace HB := zhs HB hb; clear hb hbox hg) | ((with_reducible refine gate_dst (N := 4) rfl ?_); refine box_event ?hg (N := 4) ?hd (cs := #[.slice none 0 0]) (t := 32) ?hr ?_; (case hd => rfl); (case hg => rfl); (case hr => first | (go_simp; done) | (go_simp; rfl)); intro gb200 hg w4 hbox hb; have BK200 := Aside0.mk (hbox); have GW200 := zge HB hg; have GE200 := zge HB hg; have NB199_200 := znl BK199 hg; have NB200_199 := znr BK199 hg; replace BK199 := zb0 BK199 hb; replace HB := zhs HB hb; clear hb hbox hg) | ((with_reducible refine gate_dst (N := 5) rfl ?_); refine box_event ?hg (N := 5) ?hd (cs := #[.slice none 0 0]) (t := 32) ?hr ?_; (case hd => rfl); (case hg => rfl); (case hr => first | (go_simp; done) | (go_simp; rfl)); intro gb201 hg w5 hbox hb; have BK201 := Aside0.mk (hbox); have GW201 := zge HB hg; have GE201 := zge HB hg; have NB199_201 := znl BK199 hg; have NB201_199 := znr BK199 hg; have NB200_201 := znl BK200 hg; have NB201_200 := znr BK200 hg; replace BK199 := zb0 BK199 hb; replace BK200 := zb0 BK200 hb; replace HB := zhs HB hb; clear hb hbox hg) | ((with_reducible refine gate_dst (N := 11) rfl ?_); refine Kd.R_lit k61 _ 61 ?hg (N := 11) ?hd (xs := ([] : List (S61))) (inner := []) (ok := fun _ => True) (okp := fun _ => True) ?hr ?hp (fun _ hk => hk) trivial (Below.refl _ _) (Nat.le_refl _) (by simp) ?_; (case hd => rfl); (case hg => rfl); (case hr => first | (go_simp; done) | (go_simp; rfl)); (case hp => exact (Reps.none _ _)); intro v203 w6 ho7 hb hg_ hnew_; clear hg_ hnew_; (first | rw [← Ny202.out] at ho7 | (simp only [Int.reduceToNat] at ho7; rw [← Ny202.out] at ho7)); have HO204 := Aside0.mk (Kd.R_lower ho7 (below_size (zh0 HB))); replace BK199 := zb0 BK199 hb; replace BK200 := zb0 BK200 hb; replace BK201 := zb0 BK201 hb; replace HB := zhs HB hb; clear hb ho7; obtain ⟨Ao8, co8, eo8⟩ := Kd.R_slice HO204.out; subst eo8) | ((with_reducible refine gate_dst (N := 13) rfl ?_); refine Kd.R_lit k61 _ 61 ?hg (N := 13) ?hd (xs := ([] : List (S61))) (inner := []) (ok := fun _ => True) (okp := fun _ => True) ?hr ?hp (fun _ hk => hk) trivial (Below.refl _ _) (Nat.le_refl _) (by simp) ?_; (case hd => rfl); (case hg => rfl); (case hr => first | (go_simp; done) | (go_simp; rfl)); (case hp => exact (Reps.none _ _)); intro v206 w9 ho10 hb hg_ hnew_; clear hg_ hnew_; (first | rw [← Ny205.out] at ho10 | (simp only [Int.reduceToNat] at ho10; rw [← Ny205.out] at ho10)); have HO207 := Aside0.mk (Kd.R_lower (Kd.R_new' ho10 (Kd.R_lt (zr0 HO204))) (below_size (zh0 HB))); replace HO204 := Aside0.mk (Kd.R_elder' (zr0 HO204) (Kd.R_base ho10) hb); replace BK199 := zb0 BK199 hb; replace BK200 := zb0 BK200 hb; replace BK201 := zb0 BK201 hb; replace HB := zhs HB hb; clear hb ho10; obtain ⟨Ao11, co11, eo11⟩ := Kd.R_slice HO207.out; subst eo11) | ((with_reducible refine gate_dst (N := 6) rfl ?_); refine box_event ?hg (N := 6) ?hd (cs := #[.slice none 0 0]) (t := 32) ?hr ?_; (case hd => rfl); (case hg => rfl); (case hr => first | (go_simp; done) | (go_simp; rfl)); intro gb208 hg w12 hbox hb; have BK208 := Aside0.mk (hbox); have GW208 := zge HB hg; have GE208 := zge HB hg; have NB199_208 := znl BK199 hg; have NB208_199 := znr BK199 hg; have NB200_208 := znl BK200 hg; have NB208_200 := znr BK200 hg; have NB201_208 := znl BK201 hg; have NB208_201 := znr BK201 hg; replace HO204 := zrb HO204 hb; replace HO207 := zrb HO207 hb; replace BK199 := zb0 BK199 hb; replace BK200 := zb0 BK200 hb; replace BK201 := zb0 BK201 hb; replace HB := zhs HB hb; clear hb hbox hg) | ((with_reducible refine gate_dst (N := 7) rfl ?_); refine box_event ?hg (N := 7) ?hd (cs := #[.slice none 0 0]) (t := 32) ?hr ?_; (case hd => rfl); (case hg => rfl); (case hr => first | (go_simp; done) | (go_simp; rfl)); intro gb209 hg w13 hbox hb; have BK209 := Aside0.mk (hbox); have GW209 := Aside0.mk ((by rw [hg]; exact (below_size (by repeat (first | exact zh0 HB | refine below_set ?_ GE199.out | refine below_set ?_ GE200.out | refine below_set ?_ GE201.out | refine below_set ?_ GE208.out))) : w.heap.size ≤ gb209)); have GE209 := Aside0.mk ((by rw [hg]; exact (below_size (by repeat (first | exact zh0 HB | refine below_set ?_ GE199.out | refine below_set ?_ GE200.out | refine below_set ?_ GE201.out | refine below_set ?_ GE208.out))) : w.heap.size ≤ gb209)); have NB199_209 := znl BK199 hg; have NB209_199 := znr BK199 hg; have NB200_209 := znl BK200 hg; have NB209_200 := znr BK200 hg; have NB201_209 := znl BK201 hg; have NB209_201 := znr BK201 hg; have NB208_209 := znl BK208 hg; have NB209_208 := znr BK208 hg; replace HO204 := zrb HO204 hb; replace HO207 := zrb HO207 hb; replace BK199 := zb0 BK199 hb; replace BK200 := zb0 BK200 hb; replace BK201 := zb0 BK201 hb; replace BK208 := zb0 BK208 hb; replace HB := Aside0.mk (below_step (by repeat (first | exact zh0 HB | refine below_set ?_ GE199.out | refine below_set ?_ GE200.out | refine below_set ?_ GE201.out | refine below_set ?_ GE208.out)) hb); clear hb hbox hg; have hnb14 := NB208_199.out; have hnc14 := NB199_208.out; have hnb15 := NB208_200.out; have hnc15 := NB200_208.out; have hnb16 := NB208_201.out; have hnc16 := NB201_208.out; have hnb17 := NB208_209.out; have hnc17 := NB209_208.out; have hcz18_0 := zc0 BK208 0 rfl; have hfz18_0 := blk_frozen BK208.out 0; have hnb19 := NB209_199.out; have hnc19 := NB199_209.out; have hnb20 := NB209_200.out; have hnc20 := NB200_209.out; have hnb21 := NB209_201.out; have hnc21 := NB201_209.out; have hcz22_0 := zc0 BK209 0 rfl; have hfz22_0 := blk_frozen BK209.out 0))
 go_loopg [8, 9] k (fun kq v8 v9 w' => ∃ (x8_1 : Int) (x9_1 : Int) (x209000_1 : List (S61)) (x210000_1 : List (S61)) (u209000 : Value) (u210000 : Value), v8 = .int .i64 x8_1 ∧ v9 = .int .i64 x9_1 ∧ Aside0 (spec_l7Split.l0 kq a1 x8_1 x9_1 l0_0 x209000_1 x210000_1 = some (r1, r2)) ∧ Aside0 (kq ≤ k) ∧ Aside0 (Kd.R k61 61 w' w.heap.size (fun k_ => some k_ ≠ (u210000 : Value).ownBlock) u209000 x209000_1) ∧ Aside0 (Kd.R k61 61 w' w.heap.size (fun k_ => some k_ ≠ (u209000 : Value).ownBlock) u210000 x210000_1) ∧ Aside0 (w'.heap[gb199]? = some (.cells #[(.slice A0_0 l0_0.length c0_0)] 32 (0, 0))) ∧ Aside0 (w'.heap[gb200]? = some (.cells #[(.slice none 0 0)] 32 (0, 0))) ∧ Aside0 (w'.heap[gb201]? = some (.cells #[(.slice none 0 0)] 32 (0, 0))) ∧ Aside0 (w'.heap[gb208]? = some (.cells #[u209000] 32 (0, 0))) ∧ Aside0 (w'.heap[gb209]? = some (.cells #[u210000] 32 (0, 0))) ∧ Aside0 (Below w.heap.size w w'))
 case atStart => exact ⟨(0), (0), (y202), (y205), (.slice Ao8 y202.length co8), (.slice Ao11 y205.length co11), (by first | rfl | (simp; done) | (simp [*]; done)), (by first | rfl | (simp; done) | (simp [*]; done)), H', ⟨Nat.le_refl _⟩, ⟨by (with_reducible repeat (first | apply Kd.R_alloc | apply Kd.R_drewN | apply Kd.R_drew)); exact Kd.R_mono (Kd.R_far (p := ⟨gb209, 0, none⟩) (Kd.R_far (p := ⟨gb208, 0, none⟩) (Kd.R_types (Kd.R_types HO204.out BK208.out (by decide)) BK209.out (by decide)) (fun _ hk => hk.1.2) (.slice Ao8 y202.length co8)) (fun _ hk => hk.2) (.slice Ao11 y205.length co11)) (fun _ hk => hk.1.1.2)⟩, ⟨by (with_reducible repeat (first | apply Kd.R_alloc | apply Kd.R_drewN | apply Kd.R_drew)); exact Kd.R_mono (Kd.R_far (p := ⟨gb209, 0, none⟩) (Kd.R_far (p := ⟨gb208, 0, none⟩) (Kd.R_types (Kd.R_types HO207.out BK208.out (by decide)) BK209.out (by decide)) (fun _ hk => hk.1.2) (.slice Ao8 y202.length co8)) (fun _ hk => hk.2) (.slice Ao11 y205.length co11)) (fun _ hk => hk.1.1.2)⟩, ⟨by (with_reducible repeat (first | refine blk_drewN ?_ _ | refine blk_drew ?_ | refine blk_alloc ?_ _)); refine blk_far ?_ NB199_209.out _; refine blk_far ?_ NB199_208.out _; (with_reducible repeat (first | refine blk_drewN ?_ _ | refine blk_drew ?_ | refine blk_alloc ?_ _)); exact BK199.out⟩, ⟨by (with_reducible repeat (first | refine blk_drewN ?_ _ | refine blk_drew ?_ | refine blk_alloc ?_ _)); refine blk_far ?_ NB200_209.out _; refine blk_far ?_ NB200_208.out _; (with_reducible repeat (first | refine blk_drewN ?_ _ | refine blk_drew ?_ | refine blk_alloc ?_ _)); exact BK200.out⟩, ⟨by (with_reducible repeat (first | refine blk_drewN ?_ _ | refine blk_drew ?_ | refine blk_alloc ?_ _)); refine blk_far ?_ NB201_209.out _; refine blk_far ?_ NB201_208.out _; (with_reducible repeat (first | refine blk_drewN ?_ _ | refine blk_drew ?_ | refine blk_alloc ?_ _)); exact BK201.out⟩, ⟨by (with_reducible repeat (first | refine blk_drewN ?_ _ | refine blk_drew ?_ | refine blk_alloc ?_ _)); refine blk_far ?_ NB208_209.out _; refine blk_put (cs := #[.slice none 0 0]) ?_ 0 _ rfl; (with_reducible repeat (first | refine blk_drewN ?_ _ | refine blk_drew ?_ | refine blk_alloc ?_ _)); exact BK208.out⟩, ⟨by (with_reducible repeat (first | refine blk_drewN ?_ _ | refine blk_drew ?_ | refine blk_alloc ?_ _)); refine blk_put (cs := #[.slice none 0 0]) ?_ 0 _ rfl; refine blk_far ?_ NB209_208.out _; (with_reducible repeat (first | refine blk_drewN ?_ _ | refine blk_drew ?_ | refine blk_alloc ?_ _)); exact BK209.out⟩, ⟨by repeat (first | exact zh0 HB | refine below_set ?_ GE199.out | refine below_set ?_ GE200.out | refine below_set ?_ GE201.out | refine below_set ?_ GE208.out | refine below_set ?_ GE209.out)⟩⟩
 case round =>
  clear H'
  try clear c1
  try clear c2
  try clear p2
  try clear c9
  try clear c14
  try clear c15
  try clear c16
  try clear c17
  try clear c19
  try clear c20
  try clear c21
  try clear hcz18_0
  try clear hcz22_0
  try clear hfz18_0
  try clear hfz22_0
  obtain ⟨x8_1, x9_1, x209000_1, x210000_1, u209000, u210000, rfl, rfl, HA, HK1, HO_209000, HO_210000, BK199, BK200, BK201, BK208, BK209, HB⟩ := hrel
  cases gk with
  | zero => exact absurd HA.out (by simp [spec_l7Split.l0])
  | succ k1 =>
   have H := HA.out
   clear HA
   simp only [spec_l7Split.l0] at H
   by_cases c23 : x9_1 < (l0_0.length : Int)
   ·rw [if_pos c23] at H
    have c23b0 : decide (x9_1 < (l0_0.length : Int)) = true := decide_eq_true c23
    clear c23
    by_cases c24 : 0 ≤ x9_1
    ·rw [if_pos c24] at H
     have c24b0 : decide (0 ≤ x9_1) = true := decide_eq_true c24
     clear c24
     have HC25 := Aside0.mk H
     clear H
     have hnb26 := NB199_200.out
     have hnc26 := NB200_199.out
     have hnb27 := NB199_201.out
     have hnc27 := NB201_199.out
     have hnb28 := NB199_208.out
     have hnc28 := NB208_199.out
     have hnb29 := NB199_209.out
     have hnc29 := NB209_199.out
     have hcz30_0 := zc0 BK199 0 rfl
     have hfz30_0 := blk_frozen BK199.out 0
     have p210 : 0 ≤ (x9_1 : Int) := of_decide_eq_true (by first | (with_reducible assumption) | assumption)
     have q210 : x9_1 < (l0_0.length : Int) := of_decide_eq_true (by first | (with_reducible assumption) | assumption)
     obtain ⟨ad210, e210, hx210_0, hx210_1, hx210_2, hx210_3⟩ := at_T61 HR0_0.out x9_1 p210 q210
     cases e210
     replace hx210_0 := (HB.out.cell (World.block_lt_of_cell? w _ hx210_0)).trans hx210_0
     replace hx210_1 := (HB.out.cell (World.block_lt_of_cell? w _ hx210_1)).trans hx210_1
     replace hx210_2 := (HB.out.cell (World.block_lt_of_cell? w _ hx210_2)).trans hx210_2
     replace hx210_3 := (HB.out.cell (World.block_lt_of_cell? w _ hx210_3)).trans hx210_3
     replace p210 := eq_true p210
     replace q210 := eq_true q210
     go_upto_region 9 with (first | ((with_reducible refine gate_dst (N := 10) rfl ?_); refine box_event ?hg (N := 10) ?hd (cs := #[.int .i64 0, .int .i64 0, .int .i64 0, .int .i64 0]) (t := 61) ?hr ?_; (case hd => rfl); (case hg => rfl); (case hr => first | (go_simp; done) | (go_simp; rfl)); intro gb211 hg w31 hbox hb; have BK211 := Aside0.mk (hbox); have GW211 := Aside0.mk ((by rw [hg]; exact (below_size (by repeat (first | exact zh0 HB | refine below_set ?_ GE199.out | refine below_set ?_ GE200.out | refine below_set ?_ GE201.out | refine below_set ?_ GE208.out | refine below_set ?_ GE209.out))) : w.heap.size ≤ gb211)); have GE211 := Aside0.mk ((by rw [hg]; exact (below_size (by repeat (first | exact zh0 HB | refine below_set ?_ GE199.out | refine below_set ?_ GE200.out | refine below_set ?_ GE201.out | refine below_set ?_ GE208.out | refine below_set ?_ GE209.out))) : w.heap.size ≤ gb211)); have NB199_211 := znl BK199 hg; have NB211_199 := znr BK199 hg; have NB200_211 := znl BK200 hg; have NB211_200 := znr BK200 hg; have NB201_211 := znl BK201 hg; have NB211_201 := znr BK201 hg; have NB208_211 := znl BK208 hg; have NB211_208 := znr BK208 hg; have NB209_211 := znl BK209 hg; have NB211_209 := znr BK209 hg; replace HO_209000 := Aside0.mk (Kd.R_below (Kd.R_elderB (zr0 HO_209000) gb211 (Nat.le_of_eq hg.symm)) hb); replace HO_210000 := Aside0.mk (Kd.R_below (Kd.R_elderB (zr0 HO_210000) gb211 (Nat.le_of_eq hg.symm)) hb); replace BK199 := zb0 BK199 hb; replace BK200 := zb0 BK200 hb; replace BK201 := zb0 BK201 hb; replace BK208 := zb0 BK208 hb; replace BK209 := zb0 BK209 hb; replace HB := Aside0.mk (below_step (by repeat (first | exact zh0 HB | refine below_set ?_ GE199.out | refine below_set ?_ GE200.out | refine below_set ?_ GE201.out | refine below_set ?_ GE208.out | refine below_set ?_ GE209.out)) hb); clear hb hbox hg; have hnb32 := NB211_199.out; have hnc32 := NB199_211.out; have hnb33 := NB211_200.out; have hnc33 := NB200_211.out; have hnb34 := NB211_201.out; have hnc34 := NB201_211.out; have hnb35 := NB211_208.out; have hnc35 := NB208_211.out; have hnb36 := NB211_209.out; have hnc36 := NB209_211.out; have hcz37_0 := zc0 BK211 0 rfl; have hcz37_1 := zc0 BK211 1 rfl; have hcz37_2 := zc0 BK211 2 rfl; have hcz37_3 := zc0 BK211 3 rfl; have hfz37_0 := blk_frozen BK211.out 0; have hfz37_1 := blk_frozen BK211.out 1; have hfz37_2 := blk_frozen BK211.out 2; have hfz37_3 := blk_frozen BK211.out 3))
     (try simp only [Act.put, zp1, zp2, zp3])
     go_cut [54] (fun v54 wc => ∃ (kq : Nat) (x54_24 : Bool), v54 = .bool x54_24 ∧ Aside0 (spec_l7Split.j1 kq a1 x8_1 x9_1 x54_24 l0_0 x209000_1 x210000_1 ((rd_T61 l0_0 x9_1).f0) ((rd_T61 l0_0 x9_1).f1) ((rd_T61 l0_0 x9_1).f2) ((rd_T61 l0_0 x9_1).f3) = some (r1, r2)) ∧ Aside0 (kq ≤ k1) ∧ Aside0 (Kd.R k61 61 wc w.heap.size (fun k_ => some k_ ≠ (u210000 : Value).ownBlock ∧ k_ ≠ gb211) u209000 x209000_1) ∧ Aside0 (Kd.R k61 61 wc w.heap.size (fun k_ => some k_ ≠ (u209000 : Value).ownBlock ∧ k_ ≠ gb211) u210000 x210000_1) ∧ Aside0 (wc.heap[gb199]? = some (.cells #[(.slice (some ad210) l0_0.length c0_0)] 32 (0, 0))) ∧ Aside0 (wc.heap[gb200]? = some (.cells #[(.slice none 0 0)] 32 (0, 0))) ∧ Aside0 (wc.heap[gb201]? = some (.cells #[(.slice none 0 0)] 32 (0, 0))) ∧ Aside0 (wc.heap[gb208]? = some (.cells #[u209000] 32 (0, 0))) ∧ Aside0 (wc.heap[gb209]? = some (.cells #[u210000] 32 (0, 0))) ∧ Aside0 (wc.heap[gb211]? = some (.cells #[.int .i64 ((rd_T61 l0_0 x9_1).f0), .int .i64 ((rd_T61 l0_0 x9_1).f1), .int .i64 ((rd_T61 l0_0 x9_1).f2), .int .i64 ((rd_T61 l0_0 x9_1).f3)] 61 (0, 0))) ∧ Aside0 (Below w.heap.size w wc))
     case first =>
      have H := HC25.out
      clear HC25
      by_cases c38 : (wrap64 (x8_1 + ((rd_T61 l0_0 x9_1).f2))) ≤ a1
      ·rw [if_pos c38] at H
       have c38b0 : decide ((wrap64 (x8_1 + ((rd_T61 l0_0 x9_1).f2))) ≤ a1) = true := decide_eq_true c38
       clear c38
       (first | rw [c38b0] | (simp only [i64_w, i32_w]; rw [c38b0]) | skip)
       by_cases c39 : ((rd_T61 l0_0 x9_1).f2) > 0
       ·rw [if_pos c39] at H
        have c39b0 : decide (0 < ((rd_T61 l0_0 x9_1).f2)) = true := decide_eq_true c39
        clear c39
        have H' := Aside0.mk H
        clear H
        have hnb40 := NB211_199.out
        have hnc40 := NB199_211.out
        have hnb41 := NB211_200.out
        have hnc41 := NB200_211.out
        have hnb42 := NB211_201.out
        have hnc42 := NB201_211.out
        have hnb43 := NB211_208.out
        have hnc43 := NB208_211.out
        have hnb44 := NB211_209.out
        have hnc44 := NB209_211.out
        have hcz45_0 := zc0 BK211 0 rfl
        have hcz45_1 := zc0 BK211 1 rfl
        have hcz45_2 := zc0 BK211 2 rfl
        have hcz45_3 := zc0 BK211 3 rfl
        have hfz45_0 := blk_frozen BK211.out 0
        have hfz45_1 := blk_frozen BK211.out 1
        have hfz45_2 := blk_frozen BK211.out 2
        have hfz45_3 := blk_frozen BK211.out 3
        go_wp2
        go_meet
        case rel => exact ⟨_, (true), (by first | rfl | (simp; done) | (simp [*]; done)), H', ⟨by have := HK1.out; first | omega | exact Nat.le_refl _⟩, ⟨by (with_reducible repeat (first | apply Kd.R_alloc | apply Kd.R_drewN | apply Kd.R_drew)); exact Kd.R_mono (Kd.R_far (p := ⟨gb211, 3, none⟩) (Kd.R_far (p := ⟨gb211, 2, none⟩) (Kd.R_far (p := ⟨gb211, 1, none⟩) (Kd.R_far (p := ⟨gb211, 0, none⟩) (Kd.R_mono HO_209000.out (fun k_ hk => (⟨hk, hk.2⟩ : _ ∧ k_ ≠ gb211))) (fun _ hk => hk.2) (.int .i64 ((rd_T61 l0_0 x9_1).f0))) (fun _ hk => hk.2) (.int .i64 ((rd_T61 l0_0 x9_1).f1))) (fun _ hk => hk.2) (.int .i64 ((rd_T61 l0_0 x9_1).f2))) (fun _ hk => hk.2) (.int .i64 ((rd_T61 l0_0 x9_1).f3))) (fun _ hk => ⟨hk.1.1, hk.1.2⟩)⟩, ⟨by (with_reducible repeat (first | apply Kd.R_alloc | apply Kd.R_drewN | apply Kd.R_drew)); exact Kd.R_mono (Kd.R_far (p := ⟨gb211, 3, none⟩) (Kd.R_far (p := ⟨gb211, 2, none⟩) (Kd.R_far (p := ⟨gb211, 1, none⟩) (Kd.R_far (p := ⟨gb211, 0, none⟩) (Kd.R_mono HO_210000.out (fun k_ hk => (⟨hk, hk.2⟩ : _ ∧ k_ ≠ gb211))) (fun _ hk => hk.2) (.int .i64 ((rd_T61 l0_0 x9_1).f0))) (fun _ hk => hk.2) (.int .i64 ((rd_T61 l0_0 x9_1).f1))) (fun _ hk => hk.2) (.int .i64 ((rd_T61 l0_0 x9_1).f2))) (fun _ hk => hk.2) (.int .i64 ((rd_T61 l0_0 x9_1).f3))) (fun _ hk => ⟨hk.1.1, hk.1.2⟩)⟩, ⟨by (with_reducible repeat (first | refine blk_drewN ?_ _ | refine blk_drew ?_ | refine blk_alloc ?_ _)); refine blk_far ?_ NB199_211.out _; refine blk_far ?_ NB199_211.out _; refine blk_far ?_ NB199_211.out _; refine blk_far ?_ NB199_211.out _; (with_reducible repeat (first | refine blk_drewN ?_ _ | refine blk_drew ?_ | refine blk_alloc ?_ _)); exact BK199.out⟩, ⟨by (with_reducible repeat (first | refine blk_drewN ?_ _ | refine blk_drew ?_ | refine blk_alloc ?_ _)); refine blk_far ?_ NB200_211.out _; refine blk_far ?_ NB200_211.out _; refine blk_far ?_ NB200_211.out _; refine blk_far ?_ NB200_211.out _; (with_reducible repeat (first | refine blk_drewN ?_ _ | refine blk_drew ?_ | refine blk_alloc ?_ _)); exact BK200.out⟩, ⟨by (with_reducible repeat (first | refine blk_drewN ?_ _ | refine blk_drew ?_ | refine blk_alloc ?_ _)); refine blk_far ?_ NB201_211.out _; refine blk_far ?_ NB201_211.out _; refine blk_far ?_ NB201_211.out _; refine blk_far ?_ NB201_211.out _; (with_reducible repeat (first | refine blk_drewN ?_ _ | refine blk_drew ?_ | refine blk_alloc ?_ _)); exact BK201.out⟩, ⟨by (with_reducible repeat (first | refine blk_drewN ?_ _ | refine blk_drew ?_ | refine blk_alloc ?_ _)); refine blk_far ?_ NB208_211.out _; refine blk_far ?_ NB208_211.out _; refine blk_far ?_ NB208_211.out _; refine blk_far ?_ NB208_211.out _; (with_reducible repeat (first | refine blk_drewN ?_ _ | refine blk_drew ?_ | refine blk_alloc ?_ _)); exact BK208.out⟩, ⟨by (with_reducible repeat (first | refine blk_drewN ?_ _ | refine blk_drew ?_ | refine blk_alloc ?_ _)); refine blk_far ?_ NB209_211.out _; refine blk_far ?_ NB209_211.out _; refine blk_far ?_ NB209_211.out _; refine blk_far ?_ NB209_211.out _; (with_reducible repeat (first | refine blk_drewN ?_ _ | refine blk_drew ?_ | refine blk_alloc ?_ _)); exact BK209.out⟩, ⟨by (with_reducible repeat (first | refine blk_drewN ?_ _ | refine blk_drew ?_ | refine blk_alloc ?_ _)); refine blk_put (cs := #[.int .i64 ((rd_T61 l0_0 x9_1).f0), .int .i64 ((rd_T61 l0_0 x9_1).f1), .int .i64 ((rd_T61 l0_0 x9_1).f2), .int .i64 0]) ?_ 3 _ rfl; refine blk_put (cs := #[.int .i64 ((rd_T61 l0_0 x9_1).f0), .int .i64 ((rd_T61 l0_0 x9_1).f1), .int .i64 0, .int .i64 0]) ?_ 2 _ rfl; refine blk_put (cs := #[.int .i64 ((rd_T61 l0_0 x9_1).f0), .int .i64 0, .int .i64 0, .int .i64 0]) ?_ 1 _ rfl; refine blk_put (cs := #[.int .i64 0, .int .i64 0, .int .i64 0, .int .i64 0]) ?_ 0 _ rfl; (with_reducible repeat (first | refine blk_drewN ?_ _ | refine blk_drew ?_ | refine blk_alloc ?_ _)); exact BK211.out⟩, ⟨by repeat (first | exact zh0 HB | refine below_set ?_ GE199.out | refine below_set ?_ GE200.out | refine below_set ?_ GE201.out | refine below_set ?_ GE208.out | refine below_set ?_ GE209.out | refine below_set ?_ GE211.out)⟩⟩
       ·rw [if_neg c39] at H
        have c39b0 : decide (0 < ((rd_T61 l0_0 x9_1).f2)) = false := decide_eq_false c39
        clear c39
        by_cases c46 : x8_1 < a1
        ·rw [if_pos c46] at H
         have c46b0 : decide (x8_1 < a1) = true := decide_eq_true c46
         clear c46
         have H' := Aside0.mk H
         clear H
         have hnb47 := NB211_199.out
         have hnc47 := NB199_211.out
         have hnb48 := NB211_200.out
         have hnc48 := NB200_211.out
         have hnb49 := NB211_201.out
         have hnc49 := NB201_211.out
         have hnb50 := NB211_208.out
         have hnc50 := NB208_211.out
         have hnb51 := NB211_209.out
         have hnc51 := NB209_211.out
         have hcz52_0 := zc0 BK211 0 rfl
         have hcz52_1 := zc0 BK211 1 rfl
         have hcz52_2 := zc0 BK211 2 rfl
         have hcz52_3 := zc0 BK211 3 rfl
         have hfz52_0 := blk_frozen BK211.out 0
         have hfz52_1 := blk_frozen BK211.out 1
         have hfz52_2 := blk_frozen BK211.out 2
         have hfz52_3 := blk_frozen BK211.out 3
         go_wp2
         go_meet
         case rel => exact ⟨_, (true), (by first | rfl | (simp; done) | (simp [*]; done)), H', ⟨by have := HK1.out; first | omega | exact Nat.le_refl _⟩, ⟨by (with_reducible repeat (first | apply Kd.R_alloc | apply Kd.R_drewN | apply Kd.R_drew)); exact Kd.R_mono (Kd.R_far (p := ⟨gb211, 3, none⟩) (Kd.R_far (p := ⟨gb211, 2, none⟩) (Kd.R_far (p := ⟨gb211, 1, none⟩) (Kd.R_far (p := ⟨gb211, 0, none⟩) (Kd.R_mono HO_209000.out (fun k_ hk => (⟨hk, hk.2⟩ : _ ∧ k_ ≠ gb211))) (fun _ hk => hk.2) (.int .i64 ((rd_T61 l0_0 x9_1).f0))) (fun _ hk => hk.2) (.int .i64 ((rd_T61 l0_0 x9_1).f1))) (fun _ hk => hk.2) (.int .i64 ((rd_T61 l0_0 x9_1).f2))) (fun _ hk => hk.2) (.int .i64 ((rd_T61 l0_0 x9_1).f3))) (fun _ hk => ⟨hk.1.1, hk.1.2⟩)⟩, ⟨by (with_reducible repeat (first | apply Kd.R_alloc | apply Kd.R_drewN | apply Kd.R_drew)); exact Kd.R_mono (Kd.R_far (p := ⟨gb211, 3, none⟩) (Kd.R_far (p := ⟨gb211, 2, none⟩) (Kd.R_far (p := ⟨gb211, 1, none⟩) (Kd.R_far (p := ⟨gb211, 0, none⟩) (Kd.R_mono HO_210000.out (fun k_ hk => (⟨hk, hk.2⟩ : _ ∧ k_ ≠ gb211))) (fun _ hk => hk.2) (.int .i64 ((rd_T61 l0_0 x9_1).f0))) (fun _ hk => hk.2) (.int .i64 ((rd_T61 l0_0 x9_1).f1))) (fun _ hk => hk.2) (.int .i64 ((rd_T61 l0_0 x9_1).f2))) (fun _ hk => hk.2) (.int .i64 ((rd_T61 l0_0 x9_1).f3))) (fun _ hk => ⟨hk.1.1, hk.1.2⟩)⟩, ⟨by (with_reducible repeat (first | refine blk_drewN ?_ _ | refine blk_drew ?_ | refine blk_alloc ?_ _)); refine blk_far ?_ NB199_211.out _; refine blk_far ?_ NB199_211.out _; refine blk_far ?_ NB199_211.out _; refine blk_far ?_ NB199_211.out _; (with_reducible repeat (first | refine blk_drewN ?_ _ | refine blk_drew ?_ | refine blk_alloc ?_ _)); exact BK199.out⟩, ⟨by (with_reducible repeat (first | refine blk_drewN ?_ _ | refine blk_drew ?_ | refine blk_alloc ?_ _)); refine blk_far ?_ NB200_211.out _; refine blk_far ?_ NB200_211.out _; refine blk_far ?_ NB200_211.out _; refine blk_far ?_ NB200_211.out _; (with_reducible repeat (first | refine blk_drewN ?_ _ | refine blk_drew ?_ | refine blk_alloc ?_ _)); exact BK200.out⟩, ⟨by (with_reducible repeat (first | refine blk_drewN ?_ _ | refine blk_drew ?_ | refine blk_alloc ?_ _)); refine blk_far ?_ NB201_211.out _; refine blk_far ?_ NB201_211.out _; refine blk_far ?_ NB201_211.out _; refine blk_far ?_ NB201_211.out _; (with_reducible repeat (first | refine blk_drewN ?_ _ | refine blk_drew ?_ | refine blk_alloc ?_ _)); exact BK201.out⟩, ⟨by (with_reducible repeat (first | refine blk_drewN ?_ _ | refine blk_drew ?_ | refine blk_alloc ?_ _)); refine blk_far ?_ NB208_211.out _; refine blk_far ?_ NB208_211.out _; refine blk_far ?_ NB208_211.out _; refine blk_far ?_ NB208_211.out _; (with_reducible repeat (first | refine blk_drewN ?_ _ | refine blk_drew ?_ | refine blk_alloc ?_ _)); exact BK208.out⟩, ⟨by (with_reducible repeat (first | refine blk_drewN ?_ _ | refine blk_drew ?_ | refine blk_alloc ?_ _)); refine blk_far ?_ NB209_211.out _; refine blk_far ?_ NB209_211.out _; refine blk_far ?_ NB209_211.out _; refine blk_far ?_ NB209_211.out _; (with_reducible repeat (first | refine blk_drewN ?_ _ | refine blk_drew ?_ | refine blk_alloc ?_ _)); exact BK209.out⟩, ⟨by (with_reducible repeat (first | refine blk_drewN ?_ _ | refine blk_drew ?_ | refine blk_alloc ?_ _)); refine blk_put (cs := #[.int .i64 ((rd_T61 l0_0 x9_1).f0), .int .i64 ((rd_T61 l0_0 x9_1).f1), .int .i64 ((rd_T61 l0_0 x9_1).f2), .int .i64 0]) ?_ 3 _ rfl; refine blk_put (cs := #[.int .i64 ((rd_T61 l0_0 x9_1).f0), .int .i64 ((rd_T61 l0_0 x9_1).f1), .int .i64 0, .int .i64 0]) ?_ 2 _ rfl; refine blk_put (cs := #[.int .i64 ((rd_T61 l0_0 x9_1).f0), .int .i64 0, .int .i64 0, .int .i64 0]) ?_ 1 _ rfl; refine blk_put (cs := #[.int .i64 0, .int .i64 0, .int .i64 0, .int .i64 0]) ?_ 0 _ rfl; (with_reducible repeat (first | refine blk_drewN ?_ _ | refine blk_drew ?_ | refine blk_alloc ?_ _)); exact BK211.out⟩, ⟨by repeat (first | exact zh0 HB | refine below_set ?_ GE199.out | refine below_set ?_ GE200.out | refine below_set ?_ GE201.out | refine below_set ?_ GE208.out | refine below_set ?_ GE209.out | refine below_set ?_ GE211.out)⟩⟩
        ·rw [if_neg c46] at H
         have c46b0 : decide (x8_1 < a1) = false := decide_eq_false c46
         clear c46
         replace H := Option.bind_eq_some_iff.mp H
         obtain ⟨t212, A530, H⟩ := H
         replace H : (spec_l7Split.j1 k1 a1 x8_1 x9_1 (a1 == t212) l0_0 x209000_1 x210000_1 ((rd_T61 l0_0 x9_1).f0) ((rd_T61 l0_0 x9_1).f1) ((rd_T61 l0_0 x9_1).f2) ((rd_T61 l0_0 x9_1).f3)) = some (r1, r2) := H
         have A53 := Aside0.mk A530
         clear A530
         have H' := Aside0.mk H
         clear H
         have hnb54 := NB211_199.out
         have hnc54 := NB199_211.out
         have hnb55 := NB211_200.out
         have hnc55 := NB200_211.out
         have hnb56 := NB211_201.out
         have hnc56 := NB201_211.out
         have hnb57 := NB211_208.out
         have hnc57 := NB208_211.out
         have hnb58 := NB211_209.out
         have hnc58 := NB209_211.out
         have hcz59_0 := zc0 BK211 0 rfl
         have hcz59_1 := zc0 BK211 1 rfl
         have hcz59_2 := zc0 BK211 2 rfl
         have hcz59_3 := zc0 BK211 3 rfl
         have hfz59_0 := blk_frozen BK211.out 0
         have hfz59_1 := blk_frozen BK211.out 1
         have hfz59_2 := blk_frozen BK211.out 2
         have hfz59_3 := blk_frozen BK211.out 3
         have hnb60 := NB199_200.out
         have hnc60 := NB200_199.out
         have hnb61 := NB199_201.out
         have hnc61 := NB201_199.out
         have hnb62 := NB199_208.out
         have hnc62 := NB208_199.out
         have hnb63 := NB199_209.out
         have hnc63 := NB209_199.out
         have hcz64_0 := zc0 BK199 0 rfl
         have hfz64_0 := blk_frozen BK199.out 0
         go_wp2_with (first | (go_at_call 167; (with_reducible refine (spec_l7Length.calls k1 _ _ l0_0 t212 _ ?side1 ?side2 A53.out).mono ?_); (case side1 => exact Kd.C_below HR0_0.out (by repeat (first | exact zh0 HB | refine below_set ?_ GE199.out | refine below_set ?_ GE200.out | refine below_set ?_ GE201.out | refine below_set ?_ GE208.out | refine below_set ?_ GE209.out | refine below_set ?_ GE211.out))); (case side2 => exact HC0_0.out); rintro e w65 ⟨rfl, hb⟩; replace HO_209000 := Aside0.mk (Kd.R_below (by (with_reducible repeat (first | apply Kd.R_alloc | apply Kd.R_drewN | apply Kd.R_drew)); exact (Kd.R_mono (Kd.R_far (p := ⟨gb211, 3, none⟩) (Kd.R_far (p := ⟨gb211, 2, none⟩) (Kd.R_far (p := ⟨gb211, 1, none⟩) (Kd.R_far (p := ⟨gb211, 0, none⟩) (Kd.R_mono HO_209000.out (fun k_ hk => (⟨hk, hk.2⟩ : _ ∧ k_ ≠ gb211))) (fun _ hk => hk.2) (.int .i64 ((rd_T61 l0_0 x9_1).f0))) (fun _ hk => hk.2) (.int .i64 ((rd_T61 l0_0 x9_1).f1))) (fun _ hk => hk.2) (.int .i64 ((rd_T61 l0_0 x9_1).f2))) (fun _ hk => hk.2) (.int .i64 ((rd_T61 l0_0 x9_1).f3))) (fun _ h_ => h_.1))) hb); replace HO_210000 := Aside0.mk (Kd.R_below (by (with_reducible repeat (first | apply Kd.R_alloc | apply Kd.R_drewN | apply Kd.R_drew)); exact (Kd.R_mono (Kd.R_far (p := ⟨gb211, 3, none⟩) (Kd.R_far (p := ⟨gb211, 2, none⟩) (Kd.R_far (p := ⟨gb211, 1, none⟩) (Kd.R_far (p := ⟨gb211, 0, none⟩) (Kd.R_mono HO_210000.out (fun k_ hk => (⟨hk, hk.2⟩ : _ ∧ k_ ≠ gb211))) (fun _ hk => hk.2) (.int .i64 ((rd_T61 l0_0 x9_1).f0))) (fun _ hk => hk.2) (.int .i64 ((rd_T61 l0_0 x9_1).f1))) (fun _ hk => hk.2) (.int .i64 ((rd_T61 l0_0 x9_1).f2))) (fun _ hk => hk.2) (.int .i64 ((rd_T61 l0_0 x9_1).f3))) (fun _ h_ => h_.1))) hb); replace BK199 := Aside0.mk (blk_below (g := gb199) (o := .cells #[.slice (some ad210) l0_0.length c0_0] 32 (0, 0)) (by (with_reducible repeat (first | refine blk_drewN ?_ _ | refine blk_drew ?_ | refine blk_alloc ?_ _)); refine blk_far ?_ NB199_211.out _; refine blk_far ?_ NB199_211.out _; refine blk_far ?_ NB199_211.out _; refine blk_far ?_ NB199_211.out _; (with_reducible repeat (first | refine blk_drewN ?_ _ | refine blk_drew ?_ | refine blk_alloc ?_ _)); exact BK199.out) hb); replace BK200 := Aside0.mk (blk_below (g := gb200) (o := .cells #[.slice none 0 0] 32 (0, 0)) (by (with_reducible repeat (first | refine blk_drewN ?_ _ | refine blk_drew ?_ | refine blk_alloc ?_ _)); refine blk_far ?_ NB200_211.out _; refine blk_far ?_ NB200_211.out _; refine blk_far ?_ NB200_211.out _; refine blk_far ?_ NB200_211.out _; (with_reducible repeat (first | refine blk_drewN ?_ _ | refine blk_drew ?_ | refine blk_alloc ?_ _)); exact BK200.out) hb); replace BK201 := Aside0.mk (blk_below (g := gb201) (o := .cells #[.slice none 0 0] 32 (0, 0)) (by (with_reducible repeat (first | refine blk_drewN ?_ _ | refine blk_drew ?_ | refine blk_alloc ?_ _)); refine blk_far ?_ NB201_211.out _; refine blk_far ?_ NB201_211.out _; refine blk_far ?_ NB201_211.out _; refine blk_far ?_ NB201_211.out _; (with_reducible repeat (first | refine blk_drewN ?_ _ | refine blk_drew ?_ | refine blk_alloc ?_ _)); exact BK201.out) hb); replace BK208 := Aside0.mk (blk_below (g := gb208) (o := .cells #[u209000] 32 (0, 0)) (by (with_reducible repeat (first | refine blk_drewN ?_ _ | refine blk_drew ?_ | refine blk_alloc ?_ _)); refine blk_far ?_ NB208_211.out _; refine blk_far ?_ NB208_211.out _; refine blk_far ?_ NB208_211.out _; refine blk_far ?_ NB208_211.out _; (with_reducible repeat (first | refine blk_drewN ?_ _ | refine blk_drew ?_ | refine blk_alloc ?_ _)); exact BK208.out) hb); replace BK209 := Aside0.mk (blk_below (g := gb209) (o := .cells #[u210000] 32 (0, 0)) (by (with_reducible repeat (first | refine blk_drewN ?_ _ | refine blk_drew ?_ | refine blk_alloc ?_ _)); refine blk_far ?_ NB209_211.out _; refine blk_far ?_ NB209_211.out _; refine blk_far ?_ NB209_211.out _; refine blk_far ?_ NB209_211.out _; (with_reducible repeat (first | refine blk_drewN ?_ _ | refine blk_drew ?_ | refine blk_alloc ?_ _)); exact BK209.out) hb); replace BK211 := Aside0.mk (blk_below (g := gb211) (o := .cells #[.int .i64 ((rd_T61 l0_0 x9_1).f0), .int .i64 ((rd_T61 l0_0 x9_1).f1), .int .i64 ((rd_T61 l0_0 x9_1).f2), .int .i64 ((rd_T61 l0_0 x9_1).f3)] 61 (0, 0)) (by (with_reducible repeat (first | refine blk_drewN ?_ _ | refine blk_drew ?_ | refine blk_alloc ?_ _)); refine blk_put (cs := #[.int .i64 ((rd_T61 l0_0 x9_1).f0), .int .i64 ((rd_T61 l0_0 x9_1).f1), .int .i64 ((rd_T61 l0_0 x9_1).f2), .int .i64 0]) ?_ 3 _ rfl; refine blk_put (cs := #[.int .i64 ((rd_T61 l0_0 x9_1).f0), .int .i64 ((rd_T61 l0_0 x9_1).f1), .int .i64 0, .int .i64 0]) ?_ 2 _ rfl; refine blk_put (cs := #[.int .i64 ((rd_T61 l0_0 x9_1).f0), .int .i64 0, .int .i64 0, .int .i64 0]) ?_ 1 _ rfl; refine blk_put (cs := #[.int .i64 0, .int .i64 0, .int .i64 0, .int .i64 0]) ?_ 0 _ rfl; (with_reducible repeat (first | refine blk_drewN ?_ _ | refine blk_drew ?_ | refine blk_alloc ?_ _)); exact BK211.out) hb); replace HB := Aside0.mk (below_step (by repeat (first | exact zh0 HB | refine below_set ?_ GE199.out | refine below_set ?_ GE200.out | refine below_set ?_ GE201.out | refine below_set ?_ GE208.out | refine below_set ?_ GE209.out | refine below_set ?_ GE211.out)) hb); (try clear hb); (try clear hb2); (try clear hk); (try clear hi)))
         go_meet
         case rel => exact ⟨_, ((a1 == t212)), (by first | rfl | (simp; done) | (simp [*]; done)), H', ⟨by have := HK1.out; first | omega | exact Nat.le_refl _⟩, ⟨zr0 HO_209000⟩, ⟨zr0 HO_210000⟩, ⟨zk0 BK199⟩, ⟨zk0 BK200⟩, ⟨zk0 BK201⟩, ⟨zk0 BK208⟩, ⟨zk0 BK209⟩, ⟨zk0 BK211⟩, ⟨by repeat (first | exact zh0 HB | refine below_set ?_ GE199.out | refine below_set ?_ GE200.out | refine below_set ?_ GE201.out | refine below_set ?_ GE208.out | refine below_set ?_ GE209.out | refine below_set ?_ GE211.out)⟩⟩
      ·rw [if_neg c38] at H
       have c38b0 : decide ((wrap64 (x8_1 + ((rd_T61 l0_0 x9_1).f2))) ≤ a1) = false := decide_eq_false c38
       clear c38
       (first | rw [c38b0] | (simp only [i64_w, i32_w]; rw [c38b0]) | skip)
       have H' := Aside0.mk H
       clear H
       have hnb66 := NB211_199.out
       have hnc66 := NB199_211.out
       have hnb67 := NB211_200.out
       have hnc67 := NB200_211.out
       have hnb68 := NB211_201.out
       have hnc68 := NB201_211.out
       have hnb69 := NB211_208.out
       have hnc69 := NB208_211.out
       have hnb70 := NB211_209.out
       have hnc70 := NB209_211.out
       have hcz71_0 := zc0 BK211 0 rfl
       have hcz71_1 := zc0 BK211 1 rfl
       have hcz71_2 := zc0 BK211 2 rfl
       have hcz71_3 := zc0 BK211 3 rfl
       have hfz71_0 := blk_frozen BK211.out 0
       have hfz71_1 := blk_frozen BK211.out 1
       have hfz71_2 := blk_frozen BK211.out 2
       have hfz71_3 := blk_frozen BK211.out 3
       go_wp2
       go_meet
       case rel => exact ⟨_, (false), (by first | rfl | (simp; done) | (simp [*]; done)), H', ⟨by have := HK1.out; first | omega | exact Nat.le_refl _⟩, ⟨by (with_reducible repeat (first | apply Kd.R_alloc | apply Kd.R_drewN | apply Kd.R_drew)); exact Kd.R_mono (Kd.R_far (p := ⟨gb211, 3, none⟩) (Kd.R_far (p := ⟨gb211, 2, none⟩) (Kd.R_far (p := ⟨gb211, 1, none⟩) (Kd.R_far (p := ⟨gb211, 0, none⟩) (Kd.R_mono HO_209000.out (fun k_ hk => (⟨hk, hk.2⟩ : _ ∧ k_ ≠ gb211))) (fun _ hk => hk.2) (.int .i64 ((rd_T61 l0_0 x9_1).f0))) (fun _ hk => hk.2) (.int .i64 ((rd_T61 l0_0 x9_1).f1))) (fun _ hk => hk.2) (.int .i64 ((rd_T61 l0_0 x9_1).f2))) (fun _ hk => hk.2) (.int .i64 ((rd_T61 l0_0 x9_1).f3))) (fun _ hk => ⟨hk.1.1, hk.1.2⟩)⟩, ⟨by (with_reducible repeat (first | apply Kd.R_alloc | apply Kd.R_drewN | apply Kd.R_drew)); exact Kd.R_mono (Kd.R_far (p := ⟨gb211, 3, none⟩) (Kd.R_far (p := ⟨gb211, 2, none⟩) (Kd.R_far (p := ⟨gb211, 1, none⟩) (Kd.R_far (p := ⟨gb211, 0, none⟩) (Kd.R_mono HO_210000.out (fun k_ hk => (⟨hk, hk.2⟩ : _ ∧ k_ ≠ gb211))) (fun _ hk => hk.2) (.int .i64 ((rd_T61 l0_0 x9_1).f0))) (fun _ hk => hk.2) (.int .i64 ((rd_T61 l0_0 x9_1).f1))) (fun _ hk => hk.2) (.int .i64 ((rd_T61 l0_0 x9_1).f2))) (fun _ hk => hk.2) (.int .i64 ((rd_T61 l0_0 x9_1).f3))) (fun _ hk => ⟨hk.1.1, hk.1.2⟩)⟩, ⟨by (with_reducible repeat (first | refine blk_drewN ?_ _ | refine blk_drew ?_ | refine blk_alloc ?_ _)); refine blk_far ?_ NB199_211.out _; refine blk_far ?_ NB199_211.out _; refine blk_far ?_ NB199_211.out _; refine blk_far ?_ NB199_211.out _; (with_reducible repeat (first | refine blk_drewN ?_ _ | refine blk_drew ?_ | refine blk_alloc ?_ _)); exact BK199.out⟩, ⟨by (with_reducible repeat (first | refine blk_drewN ?_ _ | refine blk_drew ?_ | refine blk_alloc ?_ _)); refine blk_far ?_ NB200_211.out _; refine blk_far ?_ NB200_211.out _; refine blk_far ?_ NB200_211.out _; refine blk_far ?_ NB200_211.out _; (with_reducible repeat (first | refine blk_drewN ?_ _ | refine blk_drew ?_ | refine blk_alloc ?_ _)); exact BK200.out⟩, ⟨by (with_reducible repeat (first | refine blk_drewN ?_ _ | refine blk_drew ?_ | refine blk_alloc ?_ _)); refine blk_far ?_ NB201_211.out _; refine blk_far ?_ NB201_211.out _; refine blk_far ?_ NB201_211.out _; refine blk_far ?_ NB201_211.out _; (with_reducible repeat (first | refine blk_drewN ?_ _ | refine blk_drew ?_ | refine blk_alloc ?_ _)); exact BK201.out⟩, ⟨by (with_reducible repeat (first | refine blk_drewN ?_ _ | refine blk_drew ?_ | refine blk_alloc ?_ _)); refine blk_far ?_ NB208_211.out _; refine blk_far ?_ NB208_211.out _; refine blk_far ?_ NB208_211.out _; refine blk_far ?_ NB208_211.out _; (with_reducible repeat (first | refine blk_drewN ?_ _ | refine blk_drew ?_ | refine blk_alloc ?_ _)); exact BK208.out⟩, ⟨by (with_reducible repeat (first | refine blk_drewN ?_ _ | refine blk_drew ?_ | refine blk_alloc ?_ _)); refine blk_far ?_ NB209_211.out _; refine blk_far ?_ NB209_211.out _; refine blk_far ?_ NB209_211.out _; refine blk_far ?_ NB209_211.out _; (with_reducible repeat (first | refine blk_drewN ?_ _ | refine blk_drew ?_ | refine blk_alloc ?_ _)); exact BK209.out⟩, ⟨by (with_reducible repeat (first | refine blk_drewN ?_ _ | refine blk_drew ?_ | refine blk_alloc ?_ _)); refine blk_put (cs := #[.int .i64 ((rd_T61 l0_0 x9_1).f0), .int .i64 ((rd_T61 l0_0 x9_1).f1), .int .i64 ((rd_T61 l0_0 x9_1).f2), .int .i64 0]) ?_ 3 _ rfl; refine blk_put (cs := #[.int .i64 ((rd_T61 l0_0 x9_1).f0), .int .i64 ((rd_T61 l0_0 x9_1).f1), .int .i64 0, .int .i64 0]) ?_ 2 _ rfl; refine blk_put (cs := #[.int .i64 ((rd_T61 l0_0 x9_1).f0), .int .i64 0, .int .i64 0, .int .i64 0]) ?_ 1 _ rfl; refine blk_put (cs := #[.int .i64 0, .int .i64 0, .int .i64 0, .int .i64 0]) ?_ 0 _ rfl; (with_reducible repeat (first | refine blk_drewN ?_ _ | refine blk_drew ?_ | refine blk_alloc ?_ _)); exact BK211.out⟩, ⟨by repeat (first | exact zh0 HB | refine below_set ?_ GE199.out | refine below_set ?_ GE200.out | refine below_set ?_ GE201.out | refine below_set ?_ GE208.out | refine below_set ?_ GE209.out | refine below_set ?_ GE211.out)⟩⟩
     case rest =>
      clear HC25
      try clear c1
      try clear c2
      try clear p2
      try clear q2
      try clear hx2
      try clear c3
      try clear c4
      try clear c5
      try clear c6
      try clear p6
      try clear c7
      try clear c9
      try clear c14
      try clear c15
      try clear c16
      try clear c17
      try clear c19
      try clear c20
      try clear c21
      try clear p21
      try clear q21
      try clear hx21
      try clear c23
      try clear c23b0
      try clear c24
      try clear c24b0
      try clear c26
      try clear c27
      try clear c28
      try clear c29
      try clear c32
      try clear c33
      try clear c34
      try clear c35
      try clear c36
      try clear c38
      try clear c38b0
      try clear c39
      try clear c39b0
      try clear c40
      try clear c41
      try clear c42
      try clear c43
      try clear c44
      try clear c46
      try clear c46b0
      try clear c47
      try clear c48
      try clear c49
      try clear c50
      try clear c51
      try clear c54
      try clear c55
      try clear c56
      try clear c57
      try clear c58
      try clear c60
      try clear c61
      try clear c62
      try clear c63
      try clear p64
      try clear c66
      try clear c67
      try clear c68
      try clear c69
      try clear c70
      try clear hcz18_0
      try clear hcz22_0
      try clear hcz30_0
      try clear hcz37_0
      try clear hcz37_1
      try clear hcz37_2
      try clear hcz37_3
      try clear hcz45_0
      try clear hcz45_1
      try clear hcz45_2
      try clear hcz45_3
      try clear hcz52_0
      try clear hcz52_1
      try clear hcz52_2
      try clear hcz52_3
      try clear hcz59_0
      try clear hcz59_1
      try clear hcz59_2
      try clear hcz59_3
      try clear hcz64_0
      try clear hcz71_0
      try clear hcz71_1
      try clear hcz71_2
      try clear hcz71_3
      try clear hfz18_0
      try clear hfz22_0
      try clear hfz30_0
      try clear hfz37_0
      try clear hfz37_1
      try clear hfz37_2
      try clear hfz37_3
      try clear hfz45_0
      try clear hfz45_1
      try clear hfz45_2
      try clear hfz45_3
      try clear hfz52_0
      try clear hfz52_1
      try clear hfz52_2
      try clear hfz52_3
      try clear hfz59_0
      try clear hfz59_1
      try clear hfz59_2
      try clear hfz59_3
      try clear hfz64_0
      try clear hfz71_0
      try clear hfz71_1
      try clear hfz71_2
      try clear hfz71_3
      try clear hx210_0
      try clear hx210_1
      try clear hx210_2
      try clear hx210_3
      try clear p2
      try clear p210
      try clear q210
      obtain ⟨kq, x54_24, rfl, HA, HJ24, HO_209000, HO_210000, BK199, BK200, BK201, BK208, BK209, BK211, HB⟩ := hcut
      cases kq with
      | zero => exact absurd HA.out (by simp [spec_l7Split.j1])
      | succ kj24 =>
       have H := HA.out
       clear HA
       simp only [spec_l7Split.j1] at H
       by_cases c72 : x54_24 = true
       ·subst c72
        have H1 : (if x209000_1.length < 4398046511104 then (spec_l7Split.l0 kj24 a1 (wrap64 (x8_1 + ((rd_T61 l0_0 x9_1).f2))) (wrap64 (x9_1 + 1)) l0_0 (x209000_1 ++ [(⟨((rd_T61 l0_0 x9_1).f0), ((rd_T61 l0_0 x9_1).f1), ((rd_T61 l0_0 x9_1).f2), ((rd_T61 l0_0 x9_1).f3)⟩ : S61)]) x210000_1) else (none)) = some (r1, r2) := by rw [if_pos rfl] at H; exact H
        clear H
        have H := H1
        clear H1
        by_cases c73 : x209000_1.length < 4398046511104
        ·rw [if_pos c73] at H
         have LMc73 := Aside0.mk c73
         clear c73
         obtain ⟨y213, hy213⟩ : ∃ y_ : List (S61), y_ = (x209000_1 ++ [(⟨((rd_T61 l0_0 x9_1).f0), ((rd_T61 l0_0 x9_1).f1), ((rd_T61 l0_0 x9_1).f2), ((rd_T61 l0_0 x9_1).f3)⟩ : S61)]) := ⟨_, rfl⟩
         replace H : (spec_l7Split.l0 kj24 a1 (wrap64 (x8_1 + ((rd_T61 l0_0 x9_1).f2))) (wrap64 (x9_1 + 1)) l0_0 y213 x210000_1) = some (r1, r2) := by first | (rw [hy213]; with_reducible exact H) | (have H2_ := (Option.bind_some _ _).symm.trans H; rw [hy213]; with_reducible exact H2_) | (have H2_ := (Option.bind_some _ _).symm.trans H; with_reducible exact H2_) | with_reducible exact H | (rw [hy213]; exact H) | exact H
         have Ny213 := Aside0.mk hy213
         clear hy213
         have H' := Aside0.mk H
         clear H
         have hnb74 := NB208_199.out
         have hnc74 := NB199_208.out
         have hnb75 := NB208_200.out
         have hnc75 := NB200_208.out
         have hnb76 := NB208_201.out
         have hnc76 := NB201_208.out
         have hnb77 := NB208_209.out
         have hnc77 := NB209_208.out
         have hnb78 := NB208_211.out
         have hnc78 := NB211_208.out
         have hcz79_0 := zc0 BK208 0 rfl
         have hfz79_0 := blk_frozen BK208.out 0
         have hnb80 := NB211_199.out
         have hnc80 := NB199_211.out
         have hnb81 := NB211_200.out
         have hnc81 := NB200_211.out
         have hnb82 := NB211_201.out
         have hnc82 := NB201_211.out
         have hnb83 := NB211_209.out
         have hnc83 := NB209_211.out
         have hcz84_0 := zc0 BK211 0 rfl
         have hcz84_1 := zc0 BK211 1 rfl
         have hcz84_2 := zc0 BK211 2 rfl
         have hcz84_3 := zc0 BK211 3 rfl
         have hfz84_0 := blk_frozen BK211.out 0
         have hfz84_1 := blk_frozen BK211.out 1
         have hfz84_2 := blk_frozen BK211.out 2
         have hfz84_3 := blk_frozen BK211.out 3
         go_wp2_with (first | ((with_reducible refine gate_builtin (b := .append) (xs := #[.tmp 78, .tmp 80]) rfl ?_); at_builtin; refine Kd.R_append k61 (w0 := w) w.heap.size rfl (.tmp 78) (.tmp 80) 30 61 (.agg #[(.int .i64 0), (.int .i64 0), (.int .i64 0), (.int .i64 0)]) 32 rfl Try.underlying30 info61 rfl (by decide) (by omega) u209000 x209000_1 (⟨((rd_T61 l0_0 x9_1).f0), ((rd_T61 l0_0 x9_1).f1), ((rd_T61 l0_0 x9_1).f2), ((rd_T61 l0_0 x9_1).f3)⟩ : S61) [.int .i64 ((rd_T61 l0_0 x9_1).f0), .int .i64 ((rd_T61 l0_0 x9_1).f1), .int .i64 ((rd_T61 l0_0 x9_1).f2), .int .i64 ((rd_T61 l0_0 x9_1).f3)] (fun k_ => some k_ ≠ (u210000 : Value).ownBlock ∧ k_ ≠ gb211) (fun _ => False) rfl rfl ?aP (fun _ hk => hk.elim) ?aF ?aO ?aB ?aS ?aL ?_; (case aP => exact k61_mkM _ _ _ (⟨((rd_T61 l0_0 x9_1).f0), ((rd_T61 l0_0 x9_1).f1), ((rd_T61 l0_0 x9_1).f2), ((rd_T61 l0_0 x9_1).f3)⟩ : S61)); (case aB => exact (by repeat (first | exact zh0 HB | refine below_set ?_ GE199.out | refine below_set ?_ GE200.out | refine below_set ?_ GE201.out | refine below_set ?_ GE208.out | refine below_set ?_ GE209.out | refine below_set ?_ GE211.out))); (case aF => exact (fun k_ hk => ⟨Kd.fresh' (Kd.R_lt (zr0 HO_210000)) k_ hk, Kd.freshB (g := gb211) (o := .cells #[.int .i64 ((rd_T61 l0_0 x9_1).f0), .int .i64 ((rd_T61 l0_0 x9_1).f1), .int .i64 ((rd_T61 l0_0 x9_1).f2), .int .i64 ((rd_T61 l0_0 x9_1).f3)] 61 (0, 0)) (zk0 BK211) k_ hk⟩)); (case aO => exact (zr0 HO_209000)); (case aS => exact (below_size (by repeat (first | exact zh0 HB | refine below_set ?_ GE199.out | refine below_set ?_ GE200.out | refine below_set ?_ GE201.out | refine below_set ?_ GE208.out | refine below_set ?_ GE209.out | refine below_set ?_ GE211.out)))); (case aL => have := LMc73.out; omega); intro v214 w85 ho hb hg hat; rw [← Ny213.out] at ho; have n0_ := Aside0.mk (Kd.R_after (ok := (fun k_ => k_ ≠ gb211)) (by (with_reducible repeat (first | apply Kd.R_alloc | apply Kd.R_drewN | apply Kd.R_drew)); exact Kd.R_mono HO_210000.out (fun _ hk => ⟨hk.2, hk.1⟩)) hg hat); have n1_ := Aside0.mk (blk_grown (g := gb199) (o := .cells #[.slice (some ad210) l0_0.length c0_0] 32 (0, 0)) (zk0 BK199) hg (Kd.R_ne HO_209000.out BK199.out (by decide))); have n2_ := Aside0.mk (blk_grown (g := gb200) (o := .cells #[.slice none 0 0] 32 (0, 0)) (zk0 BK200) hg (Kd.R_ne HO_209000.out BK200.out (by decide))); have n3_ := Aside0.mk (blk_grown (g := gb201) (o := .cells #[.slice none 0 0] 32 (0, 0)) (zk0 BK201) hg (Kd.R_ne HO_209000.out BK201.out (by decide))); have n4_ := Aside0.mk (blk_grown (g := gb208) (o := .cells #[u209000] 32 (0, 0)) (zk0 BK208) hg (Kd.R_ne HO_209000.out BK208.out (by decide))); have n5_ := Aside0.mk (blk_grown (g := gb209) (o := .cells #[u210000] 32 (0, 0)) (zk0 BK209) hg (Kd.R_ne HO_209000.out BK209.out (by decide))); have n6_ := Aside0.mk (blk_grown (g := gb211) (o := .cells #[.int .i64 ((rd_T61 l0_0 x9_1).f0), .int .i64 ((rd_T61 l0_0 x9_1).f1), .int .i64 ((rd_T61 l0_0 x9_1).f2), .int .i64 ((rd_T61 l0_0 x9_1).f3)] 61 (0, 0)) (zk0 BK211) hg (Kd.R_away HO_209000.out (fun _ hk => hk.2))); have n7_ := Aside0.mk (hb); have n8_ := Aside0.mk (ho); clear HO_210000; clear BK199; clear BK200; clear BK201; clear BK208; clear BK209; clear BK211; clear HB; clear HO_209000; have HO_210000 := n0_; have BK199 := n1_; have BK200 := n2_; have BK201 := n3_; have BK208 := n4_; have BK209 := n5_; have BK211 := n6_; have HB := n7_; have HO215 := n8_; clear n0_ n1_ n2_ n3_ n4_ n5_ n6_ n7_ n8_; clear ho hb hg hat; obtain ⟨Ao86, co86, eo86⟩ := Kd.R_slice HO215.out; subst eo86; have hcz87_0 := zc0 BK208 0 rfl; have hfz87_0 := blk_frozen BK208.out 0; have hcz88_0 := zc0 BK211 0 rfl; have hcz88_1 := zc0 BK211 1 rfl; have hcz88_2 := zc0 BK211 2 rfl; have hcz88_3 := zc0 BK211 3 rfl; have hfz88_0 := blk_frozen BK211.out 0; have hfz88_1 := blk_frozen BK211.out 1; have hfz88_2 := blk_frozen BK211.out 2; have hfz88_3 := blk_frozen BK211.out 3))
         go_roundg kj24
         case measure => have := HK1.out; have := HJ24.out; omega
         case rel => exact ⟨(wrap64 (x8_1 + ((rd_T61 l0_0 x9_1).f2))), (wrap64 (x9_1 + 1)), (y213), (x210000_1), (.slice Ao86 y213.length co86), (u210000), (by first | rfl | (simp; done) | (simp [*]; done)), (by first | rfl | (simp; done) | (simp [*]; done)), H', ⟨by have := HK1.out; have := HJ24.out; omega⟩, ⟨by (with_reducible repeat (first | apply Kd.R_alloc | apply Kd.R_drewN | apply Kd.R_drew)); exact Kd.R_mono (Kd.R_far (p := ⟨gb208, 0, none⟩) (Kd.R_types HO215.out BK208.out (by decide)) (fun _ hk => hk.2) (.slice Ao86 y213.length co86)) (fun _ hk => hk.1.1)⟩, ⟨by (with_reducible repeat (first | apply Kd.R_alloc | apply Kd.R_drewN | apply Kd.R_drew)); exact Kd.R_mono (Kd.R_far (p := ⟨gb208, 0, none⟩) (Kd.R_types HO_210000.out BK208.out (by decide)) (fun _ hk => hk.2) (.slice Ao86 y213.length co86)) (fun _ hk => hk.1.2)⟩, ⟨by (with_reducible repeat (first | refine blk_drewN ?_ _ | refine blk_drew ?_ | refine blk_alloc ?_ _)); refine blk_far ?_ NB199_208.out _; (with_reducible repeat (first | refine blk_drewN ?_ _ | refine blk_drew ?_ | refine blk_alloc ?_ _)); exact BK199.out⟩, ⟨by (with_reducible repeat (first | refine blk_drewN ?_ _ | refine blk_drew ?_ | refine blk_alloc ?_ _)); refine blk_far ?_ NB200_208.out _; (with_reducible repeat (first | refine blk_drewN ?_ _ | refine blk_drew ?_ | refine blk_alloc ?_ _)); exact BK200.out⟩, ⟨by (with_reducible repeat (first | refine blk_drewN ?_ _ | refine blk_drew ?_ | refine blk_alloc ?_ _)); refine blk_far ?_ NB201_208.out _; (with_reducible repeat (first | refine blk_drewN ?_ _ | refine blk_drew ?_ | refine blk_alloc ?_ _)); exact BK201.out⟩, ⟨by (with_reducible repeat (first | refine blk_drewN ?_ _ | refine blk_drew ?_ | refine blk_alloc ?_ _)); refine blk_put (cs := #[u209000]) ?_ 0 _ rfl; (with_reducible repeat (first | refine blk_drewN ?_ _ | refine blk_drew ?_ | refine blk_alloc ?_ _)); exact BK208.out⟩, ⟨by (with_reducible repeat (first | refine blk_drewN ?_ _ | refine blk_drew ?_ | refine blk_alloc ?_ _)); refine blk_far ?_ NB209_208.out _; (with_reducible repeat (first | refine blk_drewN ?_ _ | refine blk_drew ?_ | refine blk_alloc ?_ _)); exact BK209.out⟩, ⟨by repeat (first | exact zh0 HB | refine below_set ?_ GE199.out | refine below_set ?_ GE200.out | refine below_set ?_ GE201.out | refine below_set ?_ GE208.out | refine below_set ?_ GE209.out | refine below_set ?_ GE211.out)⟩⟩
        ·rw [if_neg c73] at H
         exact absurd H (by simp)
       ·replace c72 := Bool.eq_false_iff.mpr c72
        subst c72
        have H1 : (if x8_1 ≥ a1 then (if x210000_1.length < 4398046511104 then (spec_l7Split.l0 kj24 a1 (wrap64 (x8_1 + ((rd_T61 l0_0 x9_1).f2))) (wrap64 (x9_1 + 1)) l0_0 x209000_1 (x210000_1 ++ [(⟨((rd_T61 l0_0 x9_1).f0), ((rd_T61 l0_0 x9_1).f1), ((rd_T61 l0_0 x9_1).f2), ((rd_T61 l0_0 x9_1).f3)⟩ : S61)])) else (none)) else ((spec_l2Slice.f ((rd_T61 l0_0 x9_1).f0) ((rd_T61 l0_0 x9_1).f1) ((rd_T61 l0_0 x9_1).f2) ((rd_T61 l0_0 x9_1).f3) 0 (wrap64 (a1 - x8_1)) (wrap64 (a1 - x8_1))).bind fun bt219 => (if x209000_1.length < 4398046511104 then ((spec_l2Slice.f ((rd_T61 l0_0 x9_1).f0) ((rd_T61 l0_0 x9_1).f1) ((rd_T61 l0_0 x9_1).f2) ((rd_T61 l0_0 x9_1).f3) (wrap64 (a1 - x8_1)) ((rd_T61 l0_0 x9_1).f2) ((rd_T61 l0_0 x9_1).f3)).bind fun bt226 => (if x210000_1.length < 4398046511104 then (spec_l7Split.l0 kj24 a1 (wrap64 (x8_1 + ((rd_T61 l0_0 x9_1).f2))) (wrap64 (x9_1 + 1)) l0_0 (x209000_1 ++ [(⟨bt219.1, bt219.2.1, bt219.2.2.1, bt219.2.2.2⟩ : S61)]) (x210000_1 ++ [(⟨bt226.1, bt226.2.1, bt226.2.2.1, bt226.2.2.2⟩ : S61)])) else (none))) else (none)))) = some (r1, r2) := by rw [if_neg (show ¬ (false = true) by decide)] at H; exact H
        clear H
        have H := H1
        clear H1
        by_cases c89 : x8_1 ≥ a1
        ·rw [if_pos c89] at H
         have c89b0 : decide (a1 ≤ x8_1) = true := decide_eq_true c89
         clear c89
         by_cases c90 : x210000_1.length < 4398046511104
         ·rw [if_pos c90] at H
          have LMc90 := Aside0.mk c90
          clear c90
          obtain ⟨y216, hy216⟩ : ∃ y_ : List (S61), y_ = (x210000_1 ++ [(⟨((rd_T61 l0_0 x9_1).f0), ((rd_T61 l0_0 x9_1).f1), ((rd_T61 l0_0 x9_1).f2), ((rd_T61 l0_0 x9_1).f3)⟩ : S61)]) := ⟨_, rfl⟩
          replace H : (spec_l7Split.l0 kj24 a1 (wrap64 (x8_1 + ((rd_T61 l0_0 x9_1).f2))) (wrap64 (x9_1 + 1)) l0_0 x209000_1 y216) = some (r1, r2) := by first | (rw [hy216]; with_reducible exact H) | (have H2_ := (Option.bind_some _ _).symm.trans H; rw [hy216]; with_reducible exact H2_) | (have H2_ := (Option.bind_some _ _).symm.trans H; with_reducible exact H2_) | with_reducible exact H | (rw [hy216]; exact H) | exact H
          have Ny216 := Aside0.mk hy216
          clear hy216
          have H' := Aside0.mk H
          clear H
          have hnb91 := NB209_199.out
          have hnc91 := NB199_209.out
          have hnb92 := NB209_200.out
          have hnc92 := NB200_209.out
          have hnb93 := NB209_201.out
          have hnc93 := NB201_209.out
          have hnb94 := NB209_208.out
          have hnc94 := NB208_209.out
          have hnb95 := NB209_211.out
          have hnc95 := NB211_209.out
          have hcz96_0 := zc0 BK209 0 rfl
          have hfz96_0 := blk_frozen BK209.out 0
          have hnb97 := NB211_199.out
          have hnc97 := NB199_211.out
          have hnb98 := NB211_200.out
          have hnc98 := NB200_211.out
          have hnb99 := NB211_201.out
          have hnc99 := NB201_211.out
          have hnb100 := NB211_208.out
          have hnc100 := NB208_211.out
          have hcz101_0 := zc0 BK211 0 rfl
          have hcz101_1 := zc0 BK211 1 rfl
          have hcz101_2 := zc0 BK211 2 rfl
          have hcz101_3 := zc0 BK211 3 rfl
          have hfz101_0 := blk_frozen BK211.out 0
          have hfz101_1 := blk_frozen BK211.out 1
          have hfz101_2 := blk_frozen BK211.out 2
          have hfz101_3 := blk_frozen BK211.out 3
          go_wp2_with (first | ((with_reducible refine gate_builtin (b := .append) (xs := #[.tmp 88, .tmp 90]) rfl ?_); at_builtin; refine Kd.R_append k61 (w0 := w) w.heap.size rfl (.tmp 88) (.tmp 90) 30 61 (.agg #[(.int .i64 0), (.int .i64 0), (.int .i64 0), (.int .i64 0)]) 32 rfl Try.underlying30 info61 rfl (by decide) (by omega) u210000 x210000_1 (⟨((rd_T61 l0_0 x9_1).f0), ((rd_T61 l0_0 x9_1).f1), ((rd_T61 l0_0 x9_1).f2), ((rd_T61 l0_0 x9_1).f3)⟩ : S61) [.int .i64 ((rd_T61 l0_0 x9_1).f0), .int .i64 ((rd_T61 l0_0 x9_1).f1), .int .i64 ((rd_T61 l0_0 x9_1).f2), .int .i64 ((rd_T61 l0_0 x9_1).f3)] (fun k_ => some k_ ≠ (u209000 : Value).ownBlock ∧ k_ ≠ gb211) (fun _ => False) rfl rfl ?aP (fun _ hk => hk.elim) ?aF ?aO ?aB ?aS ?aL ?_; (case aP => exact k61_mkM _ _ _ (⟨((rd_T61 l0_0 x9_1).f0), ((rd_T61 l0_0 x9_1).f1), ((rd_T61 l0_0 x9_1).f2), ((rd_T61 l0_0 x9_1).f3)⟩ : S61)); (case aB => exact (by repeat (first | exact zh0 HB | refine below_set ?_ GE199.out | refine below_set ?_ GE200.out | refine below_set ?_ GE201.out | refine below_set ?_ GE208.out | refine below_set ?_ GE209.out | refine below_set ?_ GE211.out))); (case aF => exact (fun k_ hk => ⟨Kd.fresh' (Kd.R_lt (zr0 HO_209000)) k_ hk, Kd.freshB (g := gb211) (o := .cells #[.int .i64 ((rd_T61 l0_0 x9_1).f0), .int .i64 ((rd_T61 l0_0 x9_1).f1), .int .i64 ((rd_T61 l0_0 x9_1).f2), .int .i64 ((rd_T61 l0_0 x9_1).f3)] 61 (0, 0)) (zk0 BK211) k_ hk⟩)); (case aO => exact (zr0 HO_210000)); (case aS => exact (below_size (by repeat (first | exact zh0 HB | refine below_set ?_ GE199.out | refine below_set ?_ GE200.out | refine below_set ?_ GE201.out | refine below_set ?_ GE208.out | refine below_set ?_ GE209.out | refine below_set ?_ GE211.out)))); (case aL => have := LMc90.out; omega); intro v217 w102 ho hb hg hat; rw [← Ny216.out] at ho; have n0_ := Aside0.mk (Kd.R_after (ok := (fun k_ => k_ ≠ gb211)) (by (with_reducible repeat (first | apply Kd.R_alloc | apply Kd.R_drewN | apply Kd.R_drew)); exact Kd.R_mono HO_209000.out (fun _ hk => ⟨hk.2, hk.1⟩)) hg hat); have n1_ := Aside0.mk (blk_grown (g := gb199) (o := .cells #[.slice (some ad210) l0_0.length c0_0] 32 (0, 0)) (zk0 BK199) hg (Kd.R_ne HO_210000.out BK199.out (by decide))); have n2_ := Aside0.mk (blk_grown (g := gb200) (o := .cells #[.slice none 0 0] 32 (0, 0)) (zk0 BK200) hg (Kd.R_ne HO_210000.out BK200.out (by decide))); have n3_ := Aside0.mk (blk_grown (g := gb201) (o := .cells #[.slice none 0 0] 32 (0, 0)) (zk0 BK201) hg (Kd.R_ne HO_210000.out BK201.out (by decide))); have n4_ := Aside0.mk (blk_grown (g := gb208) (o := .cells #[u209000] 32 (0, 0)) (zk0 BK208) hg (Kd.R_ne HO_210000.out BK208.out (by decide))); have n5_ := Aside0.mk (blk_grown (g := gb209) (o := .cells #[u210000] 32 (0, 0)) (zk0 BK209) hg (Kd.R_ne HO_210000.out BK209.out (by decide))); have n6_ := Aside0.mk (blk_grown (g := gb211) (o := .cells #[.int .i64 ((rd_T61 l0_0 x9_1).f0), .int .i64 ((rd_T61 l0_0 x9_1).f1), .int .i64 ((rd_T61 l0_0 x9_1).f2), .int .i64 ((rd_T61 l0_0 x9_1).f3)] 61 (0, 0)) (zk0 BK211) hg (Kd.R_away HO_210000.out (fun _ hk => hk.2))); have n7_ := Aside0.mk (hb); have n8_ := Aside0.mk (ho); clear HO_209000; clear BK199; clear BK200; clear BK201; clear BK208; clear BK209; clear BK211; clear HB; clear HO_210000; have HO_209000 := n0_; have BK199 := n1_; have BK200 := n2_; have BK201 := n3_; have BK208 := n4_; have BK209 := n5_; have BK211 := n6_; have HB := n7_; have HO218 := n8_; clear n0_ n1_ n2_ n3_ n4_ n5_ n6_ n7_ n8_; clear ho hb hg hat; obtain ⟨Ao103, co103, eo103⟩ := Kd.R_slice HO218.out; subst eo103; have hcz104_0 := zc0 BK209 0 rfl; have hfz104_0 := blk_frozen BK209.out 0; have hcz105_0 := zc0 BK211 0 rfl; have hcz105_1 := zc0 BK211 1 rfl; have hcz105_2 := zc0 BK211 2 rfl; have hcz105_3 := zc0 BK211 3 rfl; have hfz105_0 := blk_frozen BK211.out 0; have hfz105_1 := blk_frozen BK211.out 1; have hfz105_2 := blk_frozen BK211.out 2; have hfz105_3 := blk_frozen BK211.out 3))
          go_roundg kj24
          case measure => have := HK1.out; have := HJ24.out; omega
          case rel => exact ⟨(wrap64 (x8_1 + ((rd_T61 l0_0 x9_1).f2))), (wrap64 (x9_1 + 1)), (x209000_1), (y216), (u209000), (.slice Ao103 y216.length co103), (by first | rfl | (simp; done) | (simp [*]; done)), (by first | rfl | (simp; done) | (simp [*]; done)), H', ⟨by have := HK1.out; have := HJ24.out; omega⟩, ⟨by (with_reducible repeat (first | apply Kd.R_alloc | apply Kd.R_drewN | apply Kd.R_drew)); exact Kd.R_mono (Kd.R_far (p := ⟨gb209, 0, none⟩) (Kd.R_types HO_209000.out BK209.out (by decide)) (fun _ hk => hk.2) (.slice Ao103 y216.length co103)) (fun _ hk => hk.1.2)⟩, ⟨by (with_reducible repeat (first | apply Kd.R_alloc | apply Kd.R_drewN | apply Kd.R_drew)); exact Kd.R_mono (Kd.R_far (p := ⟨gb209, 0, none⟩) (Kd.R_types HO218.out BK209.out (by decide)) (fun _ hk => hk.2) (.slice Ao103 y216.length co103)) (fun _ hk => hk.1.1)⟩, ⟨by (with_reducible repeat (first | refine blk_drewN ?_ _ | refine blk_drew ?_ | refine blk_alloc ?_ _)); refine blk_far ?_ NB199_209.out _; (with_reducible repeat (first | refine blk_drewN ?_ _ | refine blk_drew ?_ | refine blk_alloc ?_ _)); exact BK199.out⟩, ⟨by (with_reducible repeat (first | refine blk_drewN ?_ _ | refine blk_drew ?_ | refine blk_alloc ?_ _)); refine blk_far ?_ NB200_209.out _; (with_reducible repeat (first | refine blk_drewN ?_ _ | refine blk_drew ?_ | refine blk_alloc ?_ _)); exact BK200.out⟩, ⟨by (with_reducible repeat (first | refine blk_drewN ?_ _ | refine blk_drew ?_ | refine blk_alloc ?_ _)); refine blk_far ?_ NB201_209.out _; (with_reducible repeat (first | refine blk_drewN ?_ _ | refine blk_drew ?_ | refine blk_alloc ?_ _)); exact BK201.out⟩, ⟨by (with_reducible repeat (first | refine blk_drewN ?_ _ | refine blk_drew ?_ | refine blk_alloc ?_ _)); refine blk_far ?_ NB208_209.out _; (with_reducible repeat (first | refine blk_drewN ?_ _ | refine blk_drew ?_ | refine blk_alloc ?_ _)); exact BK208.out⟩, ⟨by (with_reducible repeat (first | refine blk_drewN ?_ _ | refine blk_drew ?_ | refine blk_alloc ?_ _)); refine blk_put (cs := #[u210000]) ?_ 0 _ rfl; (with_reducible repeat (first | refine blk_drewN ?_ _ | refine blk_drew ?_ | refine blk_alloc ?_ _)); exact BK209.out⟩, ⟨by repeat (first | exact zh0 HB | refine below_set ?_ GE199.out | refine below_set ?_ GE200.out | refine below_set ?_ GE201.out | refine below_set ?_ GE208.out | refine below_set ?_ GE209.out | refine below_set ?_ GE211.out)⟩⟩
         ·rw [if_neg c90] at H
          exact absurd H (by simp)
        ·rw [if_neg c89] at H
         have c89b0 : decide (a1 ≤ x8_1) = false := decide_eq_false c89
         clear c89
         replace H := Option.bind_eq_some_iff.mp H
         obtain ⟨⟨t219, t220, t221, t222⟩, A1060, H⟩ := H
         replace H : (if x209000_1.length < 4398046511104 then ((spec_l2Slice.f ((rd_T61 l0_0 x9_1).f0) ((rd_T61 l0_0 x9_1).f1) ((rd_T61 l0_0 x9_1).f2) ((rd_T61 l0_0 x9_1).f3) (wrap64 (a1 - x8_1)) ((rd_T61 l0_0 x9_1).f2) ((rd_T61 l0_0 x9_1).f3)).bind fun bt226 => (if x210000_1.length < 4398046511104 then (spec_l7Split.l0 kj24 a1 (wrap64 (x8_1 + ((rd_T61 l0_0 x9_1).f2))) (wrap64 (x9_1 + 1)) l0_0 (x209000_1 ++ [(⟨t219, t220, t221, t222⟩ : S61)]) (x210000_1 ++ [(⟨bt226.1, bt226.2.1, bt226.2.2.1, bt226.2.2.2⟩ : S61)])) else (none))) else (none)) = some (r1, r2) := H
         have A106 := Aside0.mk A1060
         clear A1060
         by_cases c107 : x209000_1.length < 4398046511104
         ·rw [if_pos c107] at H
          have LMc107 := Aside0.mk c107
          clear c107
          obtain ⟨y223, hy223⟩ : ∃ y_ : List (S61), y_ = (x209000_1 ++ [(⟨t219, t220, t221, t222⟩ : S61)]) := ⟨_, rfl⟩
          replace H : ((spec_l2Slice.f ((rd_T61 l0_0 x9_1).f0) ((rd_T61 l0_0 x9_1).f1) ((rd_T61 l0_0 x9_1).f2) ((rd_T61 l0_0 x9_1).f3) (wrap64 (a1 - x8_1)) ((rd_T61 l0_0 x9_1).f2) ((rd_T61 l0_0 x9_1).f3)).bind fun bt226 => (if x210000_1.length < 4398046511104 then (spec_l7Split.l0 kj24 a1 (wrap64 (x8_1 + ((rd_T61 l0_0 x9_1).f2))) (wrap64 (x9_1 + 1)) l0_0 y223 (x210000_1 ++ [(⟨bt226.1, bt226.2.1, bt226.2.2.1, bt226.2.2.2⟩ : S61)])) else (none))) = some (r1, r2) := by first | (rw [hy223]; with_reducible exact H) | (have H2_ := (Option.bind_some _ _).symm.trans H; rw [hy223]; with_reducible exact H2_) | (have H2_ := (Option.bind_some _ _).symm.trans H; with_reducible exact H2_) | with_reducible exact H | (rw [hy223]; exact H) | exact H
          have Ny223 := Aside0.mk hy223
          clear hy223
          replace H := Option.bind_eq_some_iff.mp H
          obtain ⟨⟨t226, t227, t228, t229⟩, A1080, H⟩ := H
          replace H : (if x210000_1.length < 4398046511104 then (spec_l7Split.l0 kj24 a1 (wrap64 (x8_1 + ((rd_T61 l0_0 x9_1).f2))) (wrap64 (x9_1 + 1)) l0_0 y223 (x210000_1 ++ [(⟨t226, t227, t228, t229⟩ : S61)])) else (none)) = some (r1, r2) := H
          have A108 := Aside0.mk A1080
          clear A1080
          by_cases c109 : x210000_1.length < 4398046511104
          ·rw [if_pos c109] at H
           have LMc109 := Aside0.mk c109
           clear c109
           obtain ⟨y230, hy230⟩ : ∃ y_ : List (S61), y_ = (x210000_1 ++ [(⟨t226, t227, t228, t229⟩ : S61)]) := ⟨_, rfl⟩
           replace H : (spec_l7Split.l0 kj24 a1 (wrap64 (x8_1 + ((rd_T61 l0_0 x9_1).f2))) (wrap64 (x9_1 + 1)) l0_0 y223 y230) = some (r1, r2) := by first | (rw [hy230]; with_reducible exact H) | (have H2_ := (Option.bind_some _ _).symm.trans H; rw [hy230]; with_reducible exact H2_) | (have H2_ := (Option.bind_some _ _).symm.trans H; with_reducible exact H2_) | with_reducible exact H | (rw [hy230]; exact H) | exact H
           have Ny230 := Aside0.mk hy230
           clear hy230
           have H' := Aside0.mk H
           clear H
           try go_wp2
           replace HO_209000 := Aside0.mk (Kd.R_drew HO_209000.out)
           replace HO_210000 := Aside0.mk (Kd.R_drew HO_210000.out)
           replace BK199 := Aside0.mk (blk_drew BK199.out)
           replace BK200 := Aside0.mk (blk_drew BK200.out)
           replace BK201 := Aside0.mk (blk_drew BK201.out)
           replace BK208 := Aside0.mk (blk_drew BK208.out)
           replace BK209 := Aside0.mk (blk_drew BK209.out)
           replace BK211 := Aside0.mk (blk_drew BK211.out)
           replace HB := Aside0.mk (below_drew1 HB.out)
           refine start_ (n := 14) (S := fun w' => w'.cell? ⟨gb208, 0, none⟩ = some (u209000) ∧ w'.cell? ⟨gb211, 0, none⟩ = some (.int .i64 ((rd_T61 l0_0 x9_1).f0)) ∧ w'.cell? ⟨gb211, 1, none⟩ = some (.int .i64 ((rd_T61 l0_0 x9_1).f1)) ∧ w'.cell? ⟨gb211, 2, none⟩ = some (.int .i64 ((rd_T61 l0_0 x9_1).f2)) ∧ w'.cell? ⟨gb211, 3, none⟩ = some (.int .i64 ((rd_T61 l0_0 x9_1).f3))) (ds := [13]) #[zF, zF, zF, zF, zF, zF, zF, zF, zF, zF, zF, zF, zF, zF] (by kernel_rfl) rfl rfl ⟨zc0 BK208 0 rfl, zc0 BK211 0 rfl, zc0 BK211 1 rfl, zc0 BK211 2 rfl, zc0 BK211 3 rfl⟩ (fun hHeld => ?_); refine with_tabW spec_l7Split.tab7 spec_l7Split.bits7 (fun HT_ HW_ => ?_)
           generalize wc.drew = w110 at HO_209000 HO_210000 BK199 BK200 BK201 BK208 BK209 BK211 HB hHeld ⊢
           refine pure_ (i := 0) (N := some 27) (v := ?_) (a' := ?_) #[zT, zF, zF, zF, zF, zF, zF, zF, zF, zF, zF, zF, zF, zF] rfl rfl (any_of HT_.out (by kernel_rfl)) (fun _ _ _ h => h) (Or.inl ⟨by rfl, ?_⟩) ?_ ?_
           rotate_left
           ·intro w'
            go_simp
            with_reducible rfl
           rotate_left
           ·simp only [Act.put, zp1, zp2, zp3, i64_w, i32_w]
            rfl
           refine pure_ (i := 3) (N := some 30) (v := ?_) (a' := ?_) #[zT, zF, zF, zT, zF, zF, zF, zF, zF, zF, zF, zF, zF, zF] rfl rfl (any_of HT_.out (by kernel_rfl)) (fun _ _ _ h => h) (Or.inl ⟨by rfl, ?_⟩) ?_ ?_
           rotate_left
           ·intro w'
            go_simp
            with_reducible rfl
           rotate_left
           ·simp only [Act.put, zp1, zp2, zp3, i64_w, i32_w]
            rfl
           refine pure_ (i := 4) (N := some 31) (v := ?_) (a' := ?_) #[zT, zF, zF, zT, zT, zF, zF, zF, zF, zF, zF, zF, zF, zF] rfl rfl (any_of HT_.out (by kernel_rfl)) (fun _ _ _ h => h) (Or.inl ⟨by rfl, ?_⟩) ?_ ?_
           rotate_left
           ·intro w'
            go_simp
            with_reducible rfl
           rotate_left
           ·simp only [Act.put, zp1, zp2, zp3, i64_w, i32_w]
            rfl
           refine pure_ (i := 5) (N := some 32) (v := ?_) (a' := ?_) #[zT, zF, zF, zT, zT, zT, zF, zF, zF, zF, zF, zF, zF, zF] rfl rfl (any_of HT_.out (by kernel_rfl)) (fun _ _ _ h => h) (Or.inl ⟨by rfl, ?_⟩) ?_ ?_
           rotate_left
           ·intro w'
            go_simp
            with_reducible rfl
           rotate_left
           ·simp only [Act.put, zp1, zp2, zp3, i64_w, i32_w]
            rfl
           refine pure_ (i := 6) (N := some 33) (v := ?_) (a' := ?_) #[zT, zF, zF, zT, zT, zT, zT, zF, zF, zF, zF, zF, zF, zF] rfl rfl (any_of HT_.out (by kernel_rfl)) (fun _ _ _ h => h) (Or.inl ⟨by rfl, ?_⟩) ?_ ?_
           rotate_left
           ·intro w'
            go_simp
            with_reducible rfl
           rotate_left
           ·simp only [Act.put, zp1, zp2, zp3, i64_w, i32_w]
            rfl
           refine pure_ (i := 7) (N := some 34) (v := ?_) (a' := ?_) #[zT, zF, zF, zT, zT, zT, zT, zT, zF, zF, zF, zF, zF, zF] rfl rfl (any_of HT_.out (by kernel_rfl)) (fun _ _ _ h => h) (Or.inl ⟨by rfl, ?_⟩) ?_ ?_
           rotate_left
           ·intro w'
            go_simp
            with_reducible rfl
           rotate_left
           ·simp only [Act.put, zp1, zp2, zp3, i64_w, i32_w]
            rfl
           refine pure_ (i := 8) (N := some 35) (v := ?_) (a' := ?_) #[zT, zF, zF, zT, zT, zT, zT, zT, zT, zF, zF, zF, zF, zF] rfl rfl (any_of HT_.out (by kernel_rfl)) (fun _ _ _ h => h) (Or.inl ⟨by rfl, ?_⟩) ?_ ?_
           rotate_left
           ·intro w'
            go_simp
            with_reducible rfl
           rotate_left
           ·simp only [Act.put, zp1, zp2, zp3, i64_w, i32_w]
            rfl
           refine take_ (i := 1) (N := some 28) (v := ?_) (a' := ?_) #[zT, zT, zF, zT, zT, zT, zT, zT, zT, zF, zF, zF, zF, zF] rfl rfl (take_ofW HT_.out HW_.out (by kernel_rfl)) (fun _ _ _ h => h) (Or.inl ⟨by rfl, ?_⟩) hHeld ?_ ?_
           rotate_left
           ·rintro w' ⟨s0, s1, s2, s3, s4⟩
            go_simp
            with_reducible rfl
           rotate_left
           ·simp only [Act.put, zp1, zp2, zp3, i64_w, i32_w]
            rfl
           refine take_ (i := 2) (N := some 29) (v := ?_) (a' := ?_) #[zT, zT, zT, zT, zT, zT, zT, zT, zT, zF, zF, zF, zF, zF] rfl rfl (take_ofW HT_.out HW_.out (by kernel_rfl)) (fun _ _ _ h => h) (Or.inl ⟨by rfl, ?_⟩) hHeld ?_ ?_
           rotate_left
           ·rintro w' ⟨s0, s1, s2, s3, s4⟩
            go_simp
            with_reducible rfl
           rotate_left
           ·simp only [Act.put, zp1, zp2, zp3, i64_w, i32_w]
            rfl
           refine one_ (i := 9) (N := some 36) #[zT, zT, zT, zT, zT, zT, zT, zT, zT, zT, zF, zF, zF, zF] rfl rfl (one_of HT_.out (by kernel_rfl)) (by decide) (fun K hK => ?_)
           refine goes_ Try.func168 (by kernel_rfl) rfl #[.agg #[.int .i64 ((rd_T61 l0_0 x9_1).f0), .int .i64 ((rd_T61 l0_0 x9_1).f1), .int .i64 ((rd_T61 l0_0 x9_1).f2), .int .i64 ((rd_T61 l0_0 x9_1).f3)], .int .i64 0, .int .i64 (wrap64 (a1 - x8_1)), .int .i64 (wrap64 (a1 - x8_1))] (by rfl) rfl rfl (by (try simp only [zq1, zq2, zq3]); first | done | rfl | (simp only [List.length_drop, List.length_take]; rfl)) ?_
           with_reducible refine (spec_l2Slice.calls ((rd_T61 l0_0 x9_1).f0) ((rd_T61 l0_0 x9_1).f1) ((rd_T61 l0_0 x9_1).f2) ((rd_T61 l0_0 x9_1).f3) 0 (wrap64 (a1 - x8_1)) (wrap64 (a1 - x8_1)) t219 t220 t221 t222 _ A106.out).mono ?_
           rintro e w111 ⟨rfl, hb⟩
           refine ⟨_, rfl, ?_⟩
           replace HO_209000 := zrb HO_209000 hb
           replace HO_210000 := zrb HO_210000 hb
           replace BK199 := zb0 BK199 hb
           replace BK200 := zb0 BK200 hb
           replace BK201 := zb0 BK201 hb
           replace BK208 := zb0 BK208 hb
           replace BK209 := zb0 BK209 hb
           replace BK211 := zb0 BK211 hb
           replace HB := zhs HB hb
           (try clear hb)
           (try clear hb2)
           (try clear hk)
           (try clear hi)
           refine hK.out _ _ ⟨zc0 BK208 0 rfl, zc0 BK211 0 rfl, zc0 BK211 1 rfl, zc0 BK211 2 rfl, zc0 BK211 3 rfl⟩ (fun hHeld => ?_)
           clear hK K
           refine norm_ (a' := ?_) ?_ ?_
           rotate_left
           ·show Act.put _ (some 36) _ = _
            simp only [Act.put, zp1, zp2, zp3, i64_w, i32_w]
            rfl
           refine one_ (i := 10) (N := some 37) #[zT, zT, zT, zT, zT, zT, zT, zT, zT, zT, zT, zF, zF, zF] rfl rfl (one_of HT_.out (by kernel_rfl)) (by decide) (fun K hK => ?_)
           refine value_ (w1 := ?_) (v := ?_) (by rfl) rfl ?_ ?_
           rotate_left 2
           ·go_simp
            constructor
            ·rfl
            ·rfl
           refine hK.out _ _ ⟨(blk_cell (blk_alloc BK208.out _) 0).trans rfl, (blk_cell (blk_alloc BK211.out _) 0).trans rfl, (blk_cell (blk_alloc BK211.out _) 1).trans rfl, (blk_cell (blk_alloc BK211.out _) 2).trans rfl, (blk_cell (blk_alloc BK211.out _) 3).trans rfl⟩ (fun hHeld => ?_)
           clear hK K
           refine norm_ (a' := ?_) ?_ ?_
           rotate_left
           ·show Act.put _ (some 37) _ = _
            simp only [Act.put, zp1, zp2, zp3, i64_w, i32_w]
            rfl
           refine one_ (i := 11) (N := some 38) #[zT, zT, zT, zT, zT, zT, zT, zT, zT, zT, zT, zT, zF, zF] rfl rfl (one_of HT_.out (by kernel_rfl)) (by decide) (fun K hK => ?_)
           refine Kd.R_append_step k61 (w0 := w) w.heap.size (by rfl) (.tmp 28) (.tmp 37) 30 61 (.agg #[(.int .i64 0), (.int .i64 0), (.int .i64 0), (.int .i64 0)]) 32 rfl Try.underlying30 info61 rfl (by decide) (by omega) u209000 x209000_1 (⟨t219, t220, t221, t222⟩ : S61) [.int .i64 t219, .int .i64 t220, .int .i64 t221, .int .i64 t222] (fun k_ => some k_ ≠ (u210000 : Value).ownBlock ∧ k_ ≠ gb211) (fun _ => False) rfl rfl ?aP (fun _ hk => hk.elim) ?aF ?aO ?aB ?aS ?aL ?_
           (case aP => exact k61_mkM _ _ _ (⟨t219, t220, t221, t222⟩ : S61))
           (case aB => exact (zh0 HB))
           (case aF => exact (fun k_ hk => ⟨Kd.fresh' (Kd.R_lt (zr0 HO_210000)) k_ hk, Kd.freshB (g := gb211) (o := .cells #[.int .i64 ((rd_T61 l0_0 x9_1).f0), .int .i64 ((rd_T61 l0_0 x9_1).f1), .int .i64 ((rd_T61 l0_0 x9_1).f2), .int .i64 ((rd_T61 l0_0 x9_1).f3)] 61 (0, 0)) (zk0 BK211) k_ hk⟩))
           (case aO => exact (zr0 HO_209000))
           (case aS => exact (below_size (zh0 HB)))
           (case aL => have := LMc107.out; omega)
           intro v224 w112 ho hb hg hat
           rw [← Ny223.out] at ho
           have n0_ := Aside0.mk (Kd.R_after (ok := (fun k_ => k_ ≠ gb211)) (by (with_reducible repeat (first | apply Kd.R_alloc | apply Kd.R_drewN | apply Kd.R_drew)); exact Kd.R_mono HO_210000.out (fun _ hk => ⟨hk.2, hk.1⟩)) hg hat)
           have n1_ := Aside0.mk (blk_grown (g := gb199) (o := .cells #[.slice (some ad210) l0_0.length c0_0] 32 (0, 0)) (zk0 BK199) hg (Kd.R_ne HO_209000.out BK199.out (by decide)))
           have n2_ := Aside0.mk (blk_grown (g := gb200) (o := .cells #[.slice none 0 0] 32 (0, 0)) (zk0 BK200) hg (Kd.R_ne HO_209000.out BK200.out (by decide)))
           have n3_ := Aside0.mk (blk_grown (g := gb201) (o := .cells #[.slice none 0 0] 32 (0, 0)) (zk0 BK201) hg (Kd.R_ne HO_209000.out BK201.out (by decide)))
           have n4_ := Aside0.mk (blk_grown (g := gb208) (o := .cells #[u209000] 32 (0, 0)) (zk0 BK208) hg (Kd.R_ne HO_209000.out BK208.out (by decide)))
           have n5_ := Aside0.mk (blk_grown (g := gb209) (o := .cells #[u210000] 32 (0, 0)) (zk0 BK209) hg (Kd.R_ne HO_209000.out BK209.out (by decide)))
           have n6_ := Aside0.mk (blk_grown (g := gb211) (o := .cells #[.int .i64 ((rd_T61 l0_0 x9_1).f0), .int .i64 ((rd_T61 l0_0 x9_1).f1), .int .i64 ((rd_T61 l0_0 x9_1).f2), .int .i64 ((rd_T61 l0_0 x9_1).f3)] 61 (0, 0)) (zk0 BK211) hg (Kd.R_away HO_209000.out (fun _ hk => hk.2)))
           have n7_ := Aside0.mk (hb)
           have n8_ := Aside0.mk (ho)
           clear HO_210000
           clear BK199
           clear BK200
           clear BK201
           clear BK208
           clear BK209
           clear BK211
           clear HB
           clear HO_209000
           have HO_210000 := n0_
           have BK199 := n1_
           have BK200 := n2_
           have BK201 := n3_
           have BK208 := n4_
           have BK209 := n5_
           have BK211 := n6_
           have HB := n7_
           have HO225 := n8_
           clear n0_ n1_ n2_ n3_ n4_ n5_ n6_ n7_ n8_
           clear ho hb hg hat
           obtain ⟨Ao113, co113, eo113⟩ := Kd.R_slice HO225.out
           (first | subst eo113 | (injection eo113 with f1_ f2_ f3_; have f4_ := f1_.symm; have f5_ := f3_.symm; clear f1_ f2_ f3_; subst f4_; subst f5_))
           refine hK.out _ _ ⟨zc0 BK208 0 rfl, zc0 BK211 0 rfl, zc0 BK211 1 rfl, zc0 BK211 2 rfl, zc0 BK211 3 rfl⟩ (fun hHeld => ?_)
           clear hK K
           refine norm_ (a' := ?_) ?_ ?_
           rotate_left
           ·show Act.put _ (some 38) _ = _
            simp only [Act.put, zp1, zp2, zp3, i64_w, i32_w]
            rfl
           refine pure_ (i := 12) (N := some 39) (v := ?_) (a' := ?_) #[zT, zT, zT, zT, zT, zT, zT, zT, zT, zT, zT, zT, zT, zF] rfl rfl (any_of HT_.out (by kernel_rfl)) (fun _ _ _ h => h) (Or.inl ⟨by rfl, ?_⟩) ?_ ?_
           rotate_left
           ·intro w'
            go_simp
            with_reducible rfl
           rotate_left
           ·simp only [Act.put, zp1, zp2, zp3, i64_w, i32_w]
            rfl
           refine last_ (i := 13) (N := none) #[zT, zT, zT, zT, zT, zT, zT, zT, zT, zT, zT, zT, zT, zT] rfl rfl (one_of HT_.out (by kernel_rfl)) (by decide) (fun K hK => ?_)
           have hs114 : w112.cell? ⟨gb208, 0, none⟩ = some (u209000) := zc0 BK208 0 rfl
           have hfs114 := blk_frozen BK208.out 0
           have hns114_0 := NB199_208.out
           have hns114_1 := NB200_208.out
           have hns114_2 := NB201_208.out
           have hns114_4 := NB209_208.out
           have hns114_5 := NB211_208.out
           have hms114_0 := NB208_199.out
           have hms114_1 := NB208_200.out
           have hms114_2 := NB208_201.out
           have hms114_4 := NB208_209.out
           have hms114_5 := NB208_211.out
           refine skip_ (w1 := ?_) (by rfl) rfl ?_ ?_
           rotate_left
           ·go_simp
            rfl
           refine hK.out _ _ ?_
           clear hK K
           refine done_ (done_of HT_.out (by kernel_rfl)) ?_
           try go_wp2
           have n0_ : Aside0 (Kd.R k61 61 (w112.setCell ⟨gb208, 0, none⟩ (.slice Ao113 y223.length co113)) w.heap.size (fun k_ => some k_ ≠ (.slice Ao113 y223.length co113 : Value).ownBlock ∧ k_ ≠ gb211) u210000 x210000_1) := ⟨by (with_reducible repeat (first | apply Kd.R_alloc | apply Kd.R_drewN | apply Kd.R_drew)); exact Kd.R_mono (Kd.R_far (p := ⟨gb208, 0, none⟩) (Kd.R_types HO_210000.out BK208.out (by decide)) (fun _ hk => hk.2) (.slice Ao113 y223.length co113)) (fun _ hk => ⟨hk.1.2, hk.1.1⟩)⟩
           have n1_ : Aside0 (Kd.R k61 61 (w112.setCell ⟨gb208, 0, none⟩ (.slice Ao113 y223.length co113)) w.heap.size (fun k_ => some k_ ≠ (u210000 : Value).ownBlock ∧ k_ ≠ gb211) (.slice Ao113 y223.length co113) y223) := ⟨by (with_reducible repeat (first | apply Kd.R_alloc | apply Kd.R_drewN | apply Kd.R_drew)); exact Kd.R_mono (Kd.R_far (p := ⟨gb208, 0, none⟩) (Kd.R_types HO225.out BK208.out (by decide)) (fun _ hk => hk.2) (.slice Ao113 y223.length co113)) (fun _ hk => ⟨hk.1.1, hk.1.2⟩)⟩
           have n2_ : Aside0 ((w112.setCell ⟨gb208, 0, none⟩ (.slice Ao113 y223.length co113)).heap[gb199]? = some (.cells #[.slice (some ad210) l0_0.length c0_0] 32 (0, 0))) := ⟨by (with_reducible repeat (first | refine blk_drewN ?_ _ | refine blk_drew ?_ | refine blk_alloc ?_ _)); refine blk_far ?_ NB199_208.out _; (with_reducible repeat (first | refine blk_drewN ?_ _ | refine blk_drew ?_ | refine blk_alloc ?_ _)); exact BK199.out⟩
           have n3_ : Aside0 ((w112.setCell ⟨gb208, 0, none⟩ (.slice Ao113 y223.length co113)).heap[gb200]? = some (.cells #[.slice none 0 0] 32 (0, 0))) := ⟨by (with_reducible repeat (first | refine blk_drewN ?_ _ | refine blk_drew ?_ | refine blk_alloc ?_ _)); refine blk_far ?_ NB200_208.out _; (with_reducible repeat (first | refine blk_drewN ?_ _ | refine blk_drew ?_ | refine blk_alloc ?_ _)); exact BK200.out⟩
           have n4_ : Aside0 ((w112.setCell ⟨gb208, 0, none⟩ (.slice Ao113 y223.length co113)).heap[gb201]? = some (.cells #[.slice none 0 0] 32 (0, 0))) := ⟨by (with_reducible repeat (first | refine blk_drewN ?_ _ | refine blk_drew ?_ | refine blk_alloc ?_ _)); refine blk_far ?_ NB201_208.out _; (with_reducible repeat (first | refine blk_drewN ?_ _ | refine blk_drew ?_ | refine blk_alloc ?_ _)); exact BK201.out⟩
           have n5_ : Aside0 ((w112.setCell ⟨gb208, 0, none⟩ (.slice Ao113 y223.length co113)).heap[gb208]? = some (.cells #[.slice Ao113 y223.length co113] 32 (0, 0))) := ⟨by (with_reducible repeat (first | refine blk_drewN ?_ _ | refine blk_drew ?_ | refine blk_alloc ?_ _)); refine blk_put (cs := #[u209000]) ?_ 0 _ rfl; (with_reducible repeat (first | refine blk_drewN ?_ _ | refine blk_drew ?_ | refine blk_alloc ?_ _)); exact BK208.out⟩
           have n6_ : Aside0 ((w112.setCell ⟨gb208, 0, none⟩ (.slice Ao113 y223.length co113)).heap[gb209]? = some (.cells #[u210000] 32 (0, 0))) := ⟨by (with_reducible repeat (first | refine blk_drewN ?_ _ | refine blk_drew ?_ | refine blk_alloc ?_ _)); refine blk_far ?_ NB209_208.out _; (with_reducible repeat (first | refine blk_drewN ?_ _ | refine blk_drew ?_ | refine blk_alloc ?_ _)); exact BK209.out⟩
           have n7_ : Aside0 ((w112.setCell ⟨gb208, 0, none⟩ (.slice Ao113 y223.length co113)).heap[gb211]? = some (.cells #[.int .i64 ((rd_T61 l0_0 x9_1).f0), .int .i64 ((rd_T61 l0_0 x9_1).f1), .int .i64 ((rd_T61 l0_0 x9_1).f2), .int .i64 ((rd_T61 l0_0 x9_1).f3)] 61 (0, 0))) := ⟨by (with_reducible repeat (first | refine blk_drewN ?_ _ | refine blk_drew ?_ | refine blk_alloc ?_ _)); refine blk_far ?_ NB211_208.out _; (with_reducible repeat (first | refine blk_drewN ?_ _ | refine blk_drew ?_ | refine blk_alloc ?_ _)); exact BK211.out⟩
           have n8_ : Aside0 (Below w.heap.size w (w112.setCell ⟨gb208, 0, none⟩ (.slice Ao113 y223.length co113))) := ⟨by repeat (first | exact zh0 HB | refine below_set ?_ GE199.out | refine below_set ?_ GE200.out | refine below_set ?_ GE201.out | refine below_set ?_ GE208.out | refine below_set ?_ GE209.out | refine below_set ?_ GE211.out)⟩
           (try clear HO_210000)
           (try clear HO225)
           (try clear BK199)
           (try clear BK200)
           (try clear BK201)
           (try clear BK208)
           (try clear BK209)
           (try clear BK211)
           (try clear HB)
           generalize (w112.setCell ⟨gb208, 0, none⟩ (.slice Ao113 y223.length co113)) = w115 at n0_ n1_ n2_ n3_ n4_ n5_ n6_ n7_ n8_ ⊢
           have HO_210000 := n0_
           have HO225 := n1_
           have BK199 := n2_
           have BK200 := n3_
           have BK201 := n4_
           have BK208 := n5_
           have BK209 := n6_
           have BK211 := n7_
           have HB := n8_
           clear n0_ n1_ n2_ n3_ n4_ n5_ n6_ n7_ n8_
           replace HO_210000 := Aside0.mk (Kd.R_drew HO_210000.out)
           replace HO225 := Aside0.mk (Kd.R_drew HO225.out)
           replace BK199 := Aside0.mk (blk_drew BK199.out)
           replace BK200 := Aside0.mk (blk_drew BK200.out)
           replace BK201 := Aside0.mk (blk_drew BK201.out)
           replace BK208 := Aside0.mk (blk_drew BK208.out)
           replace BK209 := Aside0.mk (blk_drew BK209.out)
           replace BK211 := Aside0.mk (blk_drew BK211.out)
           replace HB := Aside0.mk (below_drew1 HB.out)
           refine start_ (n := 15) (S := fun w' => w'.cell? ⟨gb209, 0, none⟩ = some (u210000) ∧ w'.cell? ⟨gb211, 0, none⟩ = some (.int .i64 ((rd_T61 l0_0 x9_1).f0)) ∧ w'.cell? ⟨gb211, 1, none⟩ = some (.int .i64 ((rd_T61 l0_0 x9_1).f1)) ∧ w'.cell? ⟨gb211, 2, none⟩ = some (.int .i64 ((rd_T61 l0_0 x9_1).f2)) ∧ w'.cell? ⟨gb211, 3, none⟩ = some (.int .i64 ((rd_T61 l0_0 x9_1).f3))) (ds := [14]) #[zF, zF, zF, zF, zF, zF, zF, zF, zF, zF, zF, zF, zF, zF, zF] (by kernel_rfl) rfl rfl ⟨zc0 BK209 0 rfl, zc0 BK211 0 rfl, zc0 BK211 1 rfl, zc0 BK211 2 rfl, zc0 BK211 3 rfl⟩ (fun hHeld => ?_); refine with_tabW spec_l7Split.tab8 spec_l7Split.bits8 (fun HT_ HW_ => ?_)
           generalize w115.drew = w116 at HO_210000 HO225 BK199 BK200 BK201 BK208 BK209 BK211 HB hHeld ⊢
           refine pure_ (i := 0) (N := some 40) (v := ?_) (a' := ?_) #[zT, zF, zF, zF, zF, zF, zF, zF, zF, zF, zF, zF, zF, zF, zF] rfl rfl (any_of HT_.out (by kernel_rfl)) (fun _ _ _ h => h) (Or.inl ⟨by rfl, ?_⟩) ?_ ?_
           rotate_left
           ·intro w'
            go_simp
            with_reducible rfl
           rotate_left
           ·simp only [Act.put, zp1, zp2, zp3, i64_w, i32_w]
            rfl
           refine pure_ (i := 3) (N := some 43) (v := ?_) (a' := ?_) #[zT, zF, zF, zT, zF, zF, zF, zF, zF, zF, zF, zF, zF, zF, zF] rfl rfl (any_of HT_.out (by kernel_rfl)) (fun _ _ _ h => h) (Or.inl ⟨by rfl, ?_⟩) ?_ ?_
           rotate_left
           ·intro w'
            go_simp
            with_reducible rfl
           rotate_left
           ·simp only [Act.put, zp1, zp2, zp3, i64_w, i32_w]
            rfl
           refine pure_ (i := 4) (N := some 44) (v := ?_) (a' := ?_) #[zT, zF, zF, zT, zT, zF, zF, zF, zF, zF, zF, zF, zF, zF, zF] rfl rfl (any_of HT_.out (by kernel_rfl)) (fun _ _ _ h => h) (Or.inl ⟨by rfl, ?_⟩) ?_ ?_
           rotate_left
           ·intro w'
            go_simp
            with_reducible rfl
           rotate_left
           ·simp only [Act.put, zp1, zp2, zp3, i64_w, i32_w]
            rfl
           refine pure_ (i := 5) (N := some 45) (v := ?_) (a' := ?_) #[zT, zF, zF, zT, zT, zT, zF, zF, zF, zF, zF, zF, zF, zF, zF] rfl rfl (any_of HT_.out (by kernel_rfl)) (fun _ _ _ h => h) (Or.inl ⟨by rfl, ?_⟩) ?_ ?_
           rotate_left
           ·intro w'
            go_simp
            with_reducible rfl
           rotate_left
           ·simp only [Act.put, zp1, zp2, zp3, i64_w, i32_w]
            rfl
           refine pure_ (i := 6) (N := some 46) (v := ?_) (a' := ?_) #[zT, zF, zF, zT, zT, zT, zT, zF, zF, zF, zF, zF, zF, zF, zF] rfl rfl (any_of HT_.out (by kernel_rfl)) (fun _ _ _ h => h) (Or.inl ⟨by rfl, ?_⟩) ?_ ?_
           rotate_left
           ·intro w'
            go_simp
            with_reducible rfl
           rotate_left
           ·simp only [Act.put, zp1, zp2, zp3, i64_w, i32_w]
            rfl
           refine pure_ (i := 8) (N := some 48) (v := ?_) (a' := ?_) #[zT, zF, zF, zT, zT, zT, zT, zF, zT, zF, zF, zF, zF, zF, zF] rfl rfl (any_of HT_.out (by kernel_rfl)) (fun _ _ _ h => h) (Or.inl ⟨by rfl, ?_⟩) ?_ ?_
           rotate_left
           ·intro w'
            go_simp
            with_reducible rfl
           rotate_left
           ·simp only [Act.put, zp1, zp2, zp3, i64_w, i32_w]
            rfl
           refine take_ (i := 1) (N := some 41) (v := ?_) (a' := ?_) #[zT, zT, zF, zT, zT, zT, zT, zF, zT, zF, zF, zF, zF, zF, zF] rfl rfl (take_ofW HT_.out HW_.out (by kernel_rfl)) (fun _ _ _ h => h) (Or.inl ⟨by rfl, ?_⟩) hHeld ?_ ?_
           rotate_left
           ·rintro w' ⟨s0, s1, s2, s3, s4⟩
            go_simp
            with_reducible rfl
           rotate_left
           ·simp only [Act.put, zp1, zp2, zp3, i64_w, i32_w]
            rfl
           refine take_ (i := 2) (N := some 42) (v := ?_) (a' := ?_) #[zT, zT, zT, zT, zT, zT, zT, zF, zT, zF, zF, zF, zF, zF, zF] rfl rfl (take_ofW HT_.out HW_.out (by kernel_rfl)) (fun _ _ _ h => h) (Or.inl ⟨by rfl, ?_⟩) hHeld ?_ ?_
           rotate_left
           ·rintro w' ⟨s0, s1, s2, s3, s4⟩
            go_simp
            with_reducible rfl
           rotate_left
           ·simp only [Act.put, zp1, zp2, zp3, i64_w, i32_w]
            rfl
           refine take_ (i := 7) (N := some 47) (v := ?_) (a' := ?_) #[zT, zT, zT, zT, zT, zT, zT, zT, zT, zF, zF, zF, zF, zF, zF] rfl rfl (take_ofW HT_.out HW_.out (by kernel_rfl)) (fun _ _ _ h => h) (Or.inl ⟨by rfl, ?_⟩) hHeld ?_ ?_
           rotate_left
           ·rintro w' ⟨s0, s1, s2, s3, s4⟩
            go_simp
            with_reducible rfl
           rotate_left
           ·simp only [Act.put, zp1, zp2, zp3, i64_w, i32_w]
            rfl
           refine take_ (i := 9) (N := some 49) (v := ?_) (a' := ?_) #[zT, zT, zT, zT, zT, zT, zT, zT, zT, zT, zF, zF, zF, zF, zF] rfl rfl (take_ofW HT_.out HW_.out (by kernel_rfl)) (fun _ _ _ h => h) (Or.inl ⟨by rfl, ?_⟩) hHeld ?_ ?_
           rotate_left
           ·rintro w' ⟨s0, s1, s2, s3, s4⟩
            go_simp
            with_reducible rfl
           rotate_left
           ·simp only [Act.put, zp1, zp2, zp3, i64_w, i32_w]
            rfl
           refine one_ (i := 10) (N := some 50) #[zT, zT, zT, zT, zT, zT, zT, zT, zT, zT, zT, zF, zF, zF, zF] rfl rfl (one_of HT_.out (by kernel_rfl)) (by decide) (fun K hK => ?_)
           refine goes_ Try.func168 (by kernel_rfl) rfl #[.agg #[.int .i64 ((rd_T61 l0_0 x9_1).f0), .int .i64 ((rd_T61 l0_0 x9_1).f1), .int .i64 ((rd_T61 l0_0 x9_1).f2), .int .i64 ((rd_T61 l0_0 x9_1).f3)], .int .i64 (wrap64 (a1 - x8_1)), .int .i64 ((rd_T61 l0_0 x9_1).f2), .int .i64 ((rd_T61 l0_0 x9_1).f3)] (by rfl) rfl rfl (by (try simp only [zq1, zq2, zq3]); first | done | rfl | (simp only [List.length_drop, List.length_take]; rfl)) ?_
           with_reducible refine (spec_l2Slice.calls ((rd_T61 l0_0 x9_1).f0) ((rd_T61 l0_0 x9_1).f1) ((rd_T61 l0_0 x9_1).f2) ((rd_T61 l0_0 x9_1).f3) (wrap64 (a1 - x8_1)) ((rd_T61 l0_0 x9_1).f2) ((rd_T61 l0_0 x9_1).f3) t226 t227 t228 t229 _ A108.out).mono ?_
           rintro e w117 ⟨rfl, hb⟩
           refine ⟨_, rfl, ?_⟩
           replace HO_210000 := zrb HO_210000 hb
           replace HO225 := zrb HO225 hb
           replace BK199 := zb0 BK199 hb
           replace BK200 := zb0 BK200 hb
           replace BK201 := zb0 BK201 hb
           replace BK208 := zb0 BK208 hb
           replace BK209 := zb0 BK209 hb
           replace BK211 := zb0 BK211 hb
           replace HB := zhs HB hb
           (try clear hb)
           (try clear hb2)
           (try clear hk)
           (try clear hi)
           refine hK.out _ _ ⟨zc0 BK209 0 rfl, zc0 BK211 0 rfl, zc0 BK211 1 rfl, zc0 BK211 2 rfl, zc0 BK211 3 rfl⟩ (fun hHeld => ?_)
           clear hK K
           refine norm_ (a' := ?_) ?_ ?_
           rotate_left
           ·show Act.put _ (some 50) _ = _
            simp only [Act.put, zp1, zp2, zp3, i64_w, i32_w]
            rfl
           refine one_ (i := 11) (N := some 51) #[zT, zT, zT, zT, zT, zT, zT, zT, zT, zT, zT, zT, zF, zF, zF] rfl rfl (one_of HT_.out (by kernel_rfl)) (by decide) (fun K hK => ?_)
           refine value_ (w1 := ?_) (v := ?_) (by rfl) rfl ?_ ?_
           rotate_left 2
           ·go_simp
            constructor
            ·rfl
            ·rfl
           refine hK.out _ _ ⟨(blk_cell (blk_alloc BK209.out _) 0).trans rfl, (blk_cell (blk_alloc BK211.out _) 0).trans rfl, (blk_cell (blk_alloc BK211.out _) 1).trans rfl, (blk_cell (blk_alloc BK211.out _) 2).trans rfl, (blk_cell (blk_alloc BK211.out _) 3).trans rfl⟩ (fun hHeld => ?_)
           clear hK K
           refine norm_ (a' := ?_) ?_ ?_
           rotate_left
           ·show Act.put _ (some 51) _ = _
            simp only [Act.put, zp1, zp2, zp3, i64_w, i32_w]
            rfl
           refine one_ (i := 12) (N := some 52) #[zT, zT, zT, zT, zT, zT, zT, zT, zT, zT, zT, zT, zT, zF, zF] rfl rfl (one_of HT_.out (by kernel_rfl)) (by decide) (fun K hK => ?_)
           refine Kd.R_append_step k61 (w0 := w) w.heap.size (by rfl) (.tmp 41) (.tmp 51) 30 61 (.agg #[(.int .i64 0), (.int .i64 0), (.int .i64 0), (.int .i64 0)]) 32 rfl Try.underlying30 info61 rfl (by decide) (by omega) u210000 x210000_1 (⟨t226, t227, t228, t229⟩ : S61) [.int .i64 t226, .int .i64 t227, .int .i64 t228, .int .i64 t229] (fun k_ => some k_ ≠ (.slice Ao113 y223.length co113 : Value).ownBlock ∧ k_ ≠ gb211) (fun _ => False) rfl rfl ?aP (fun _ hk => hk.elim) ?aF ?aO ?aB ?aS ?aL ?_
           (case aP => exact k61_mkM _ _ _ (⟨t226, t227, t228, t229⟩ : S61))
           (case aB => exact (zh0 HB))
           (case aF => exact (fun k_ hk => ⟨Kd.fresh' (Kd.R_lt (zr0 HO225)) k_ hk, Kd.freshB (g := gb211) (o := .cells #[.int .i64 ((rd_T61 l0_0 x9_1).f0), .int .i64 ((rd_T61 l0_0 x9_1).f1), .int .i64 ((rd_T61 l0_0 x9_1).f2), .int .i64 ((rd_T61 l0_0 x9_1).f3)] 61 (0, 0)) (zk0 BK211) k_ hk⟩))
           (case aO => exact (zr0 HO_210000))
           (case aS => exact (below_size (zh0 HB)))
           (case aL => have := LMc109.out; omega)
           intro v231 w118 ho hb hg hat
           rw [← Ny230.out] at ho
           have n0_ := Aside0.mk (blk_grown (g := gb199) (o := .cells #[.slice (some ad210) l0_0.length c0_0] 32 (0, 0)) (zk0 BK199) hg (Kd.R_ne HO_210000.out BK199.out (by decide)))
           have n1_ := Aside0.mk (blk_grown (g := gb200) (o := .cells #[.slice none 0 0] 32 (0, 0)) (zk0 BK200) hg (Kd.R_ne HO_210000.out BK200.out (by decide)))
           have n2_ := Aside0.mk (blk_grown (g := gb201) (o := .cells #[.slice none 0 0] 32 (0, 0)) (zk0 BK201) hg (Kd.R_ne HO_210000.out BK201.out (by decide)))
           have n3_ := Aside0.mk (blk_grown (g := gb208) (o := .cells #[.slice Ao113 y223.length co113] 32 (0, 0)) (zk0 BK208) hg (Kd.R_ne HO_210000.out BK208.out (by decide)))
           have n4_ := Aside0.mk (blk_grown (g := gb209) (o := .cells #[u210000] 32 (0, 0)) (zk0 BK209) hg (Kd.R_ne HO_210000.out BK209.out (by decide)))
           have n5_ := Aside0.mk (blk_grown (g := gb211) (o := .cells #[.int .i64 ((rd_T61 l0_0 x9_1).f0), .int .i64 ((rd_T61 l0_0 x9_1).f1), .int .i64 ((rd_T61 l0_0 x9_1).f2), .int .i64 ((rd_T61 l0_0 x9_1).f3)] 61 (0, 0)) (zk0 BK211) hg (Kd.R_away HO_210000.out (fun _ hk => hk.2)))
           have n6_ := Aside0.mk (Kd.R_after (ok := (fun k_ => k_ ≠ gb211)) (by (with_reducible repeat (first | apply Kd.R_alloc | apply Kd.R_drewN | apply Kd.R_drew)); exact Kd.R_mono HO225.out (fun _ hk => ⟨hk.2, hk.1⟩)) hg hat)
           have n7_ := Aside0.mk (hb)
           have n8_ := Aside0.mk (ho)
           clear BK199
           clear BK200
           clear BK201
           clear BK208
           clear BK209
           clear BK211
           clear HO225
           clear HB
           clear HO_210000
           have BK199 := n0_
           have BK200 := n1_
           have BK201 := n2_
           have BK208 := n3_
           have BK209 := n4_
           have BK211 := n5_
           have HO225 := n6_
           have HB := n7_
           have HO232 := n8_
           clear n0_ n1_ n2_ n3_ n4_ n5_ n6_ n7_ n8_
           clear ho hb hg hat
           obtain ⟨Ao119, co119, eo119⟩ := Kd.R_slice HO232.out
           (first | subst eo119 | (injection eo119 with f1_ f2_ f3_; have f4_ := f1_.symm; have f5_ := f3_.symm; clear f1_ f2_ f3_; subst f4_; subst f5_))
           refine hK.out _ _ ⟨zc0 BK209 0 rfl, zc0 BK211 0 rfl, zc0 BK211 1 rfl, zc0 BK211 2 rfl, zc0 BK211 3 rfl⟩ (fun hHeld => ?_)
           clear hK K
           refine norm_ (a' := ?_) ?_ ?_
           rotate_left
           ·show Act.put _ (some 52) _ = _
            simp only [Act.put, zp1, zp2, zp3, i64_w, i32_w]
            rfl
           refine pure_ (i := 13) (N := some 53) (v := ?_) (a' := ?_) #[zT, zT, zT, zT, zT, zT, zT, zT, zT, zT, zT, zT, zT, zT, zF] rfl rfl (any_of HT_.out (by kernel_rfl)) (fun _ _ _ h => h) (Or.inl ⟨by rfl, ?_⟩) ?_ ?_
           rotate_left
           ·intro w'
            go_simp
            with_reducible rfl
           rotate_left
           ·simp only [Act.put, zp1, zp2, zp3, i64_w, i32_w]
            rfl
           refine last_ (i := 14) (N := none) #[zT, zT, zT, zT, zT, zT, zT, zT, zT, zT, zT, zT, zT, zT, zT] rfl rfl (one_of HT_.out (by kernel_rfl)) (by decide) (fun K hK => ?_)
           have hs120 : w118.cell? ⟨gb209, 0, none⟩ = some (u210000) := zc0 BK209 0 rfl
           have hfs120 := blk_frozen BK209.out 0
           have hns120_0 := NB199_209.out
           have hns120_1 := NB200_209.out
           have hns120_2 := NB201_209.out
           have hns120_3 := NB208_209.out
           have hns120_5 := NB211_209.out
           have hms120_0 := NB209_199.out
           have hms120_1 := NB209_200.out
           have hms120_2 := NB209_201.out
           have hms120_3 := NB209_208.out
           have hms120_5 := NB209_211.out
           refine skip_ (w1 := ?_) (by rfl) rfl ?_ ?_
           rotate_left
           ·go_simp
            rfl
           refine hK.out _ _ ?_
           clear hK K
           refine done_ (done_of HT_.out (by kernel_rfl)) ?_
           have hnb121 := NB211_199.out
           have hnc121 := NB199_211.out
           have hnb122 := NB211_200.out
           have hnc122 := NB200_211.out
           have hnb123 := NB211_201.out
           have hnc123 := NB201_211.out
           have hnb124 := NB211_208.out
           have hnc124 := NB208_211.out
           have hnb125 := NB211_209.out
           have hnc125 := NB209_211.out
           have hcz126_0 := zc0 BK211 0 rfl
           have hcz126_1 := zc0 BK211 1 rfl
           have hcz126_2 := zc0 BK211 2 rfl
           have hcz126_3 := zc0 BK211 3 rfl
           have hfz126_0 := blk_frozen BK211.out 0
           have hfz126_1 := blk_frozen BK211.out 1
           have hfz126_2 := blk_frozen BK211.out 2
           have hfz126_3 := blk_frozen BK211.out 3
           try go_wp2
           go_roundg kj24
           case measure => have := HK1.out; have := HJ24.out; omega
           case rel => exact ⟨(wrap64 (x8_1 + ((rd_T61 l0_0 x9_1).f2))), (wrap64 (x9_1 + 1)), (y223), (y230), (.slice Ao113 y223.length co113), (.slice Ao119 y230.length co119), (by first | rfl | (simp; done) | (simp [*]; done)), (by first | rfl | (simp; done) | (simp [*]; done)), H', ⟨by have := HK1.out; have := HJ24.out; omega⟩, ⟨by (with_reducible repeat (first | apply Kd.R_alloc | apply Kd.R_drewN | apply Kd.R_drew)); exact Kd.R_mono (Kd.R_far (p := ⟨gb209, 0, none⟩) (Kd.R_types HO225.out BK209.out (by decide)) (fun _ hk => hk.2) (.slice Ao119 y230.length co119)) (fun _ hk => hk.1.2)⟩, ⟨by (with_reducible repeat (first | apply Kd.R_alloc | apply Kd.R_drewN | apply Kd.R_drew)); exact Kd.R_mono (Kd.R_far (p := ⟨gb209, 0, none⟩) (Kd.R_types HO232.out BK209.out (by decide)) (fun _ hk => hk.2) (.slice Ao119 y230.length co119)) (fun _ hk => hk.1.1)⟩, ⟨by (with_reducible repeat (first | refine blk_drewN ?_ _ | refine blk_drew ?_ | refine blk_alloc ?_ _)); refine blk_far ?_ NB199_209.out _; (with_reducible repeat (first | refine blk_drewN ?_ _ | refine blk_drew ?_ | refine blk_alloc ?_ _)); exact BK199.out⟩, ⟨by (with_reducible repeat (first | refine blk_drewN ?_ _ | refine blk_drew ?_ | refine blk_alloc ?_ _)); refine blk_far ?_ NB200_209.out _; (with_reducible repeat (first | refine blk_drewN ?_ _ | refine blk_drew ?_ | refine blk_alloc ?_ _)); exact BK200.out⟩, ⟨by (with_reducible repeat (first | refine blk_drewN ?_ _ | refine blk_drew ?_ | refine blk_alloc ?_ _)); refine blk_far ?_ NB201_209.out _; (with_reducible repeat (first | refine blk_drewN ?_ _ | refine blk_drew ?_ | refine blk_alloc ?_ _)); exact BK201.out⟩, ⟨by (with_reducible repeat (first | refine blk_drewN ?_ _ | refine blk_drew ?_ | refine blk_alloc ?_ _)); refine blk_far ?_ NB208_209.out _; (with_reducible repeat (first | refine blk_drewN ?_ _ | refine blk_drew ?_ | refine blk_alloc ?_ _)); exact BK208.out⟩, ⟨by (with_reducible repeat (first | refine blk_drewN ?_ _ | refine blk_drew ?_ | refine blk_alloc ?_ _)); refine blk_put (cs := #[u210000]) ?_ 0 _ rfl; (with_reducible repeat (first | refine blk_drewN ?_ _ | refine blk_drew ?_ | refine blk_alloc ?_ _)); exact BK209.out⟩, ⟨by repeat (first | exact zh0 HB | refine below_set ?_ GE199.out | refine below_set ?_ GE200.out | refine below_set ?_ GE201.out | refine below_set ?_ GE208.out | refine below_set ?_ GE209.out | refine below_set ?_ GE211.out)⟩⟩
          ·rw [if_neg c109] at H
           exact absurd H (by simp)
         ·rw [if_neg c107] at H
          exact absurd H (by simp)
    ·rw [if_neg c24] at H
     exact absurd H (by simp)
   ·rw [if_neg c23] at H
    have c23b0 : decide (x9_1 < (l0_0.length : Int)) = false := decide_eq_false c23
    clear c23
    simp only [Option.some.injEq, Prod.mk.injEq] at H
    obtain ⟨rfl, rfl⟩ := H
    have hnb127 := NB199_200.out
    have hnc127 := NB200_199.out
    have hnb128 := NB199_201.out
    have hnc128 := NB201_199.out
    have hnb129 := NB199_208.out
    have hnc129 := NB208_199.out
    have hnb130 := NB199_209.out
    have hnc130 := NB209_199.out
    have hcz131_0 := zc0 BK199 0 rfl
    have hfz131_0 := blk_frozen BK199.out 0
    try go_wp2
    replace HO_209000 := Aside0.mk (Kd.R_drew HO_209000.out)
    replace HO_210000 := Aside0.mk (Kd.R_drew HO_210000.out)
    replace BK199 := Aside0.mk (blk_drew BK199.out)
    replace BK200 := Aside0.mk (blk_drew BK200.out)
    replace BK201 := Aside0.mk (blk_drew BK201.out)
    replace BK208 := Aside0.mk (blk_drew BK208.out)
    replace BK209 := Aside0.mk (blk_drew BK209.out)
    replace HB := Aside0.mk (below_drew1 HB.out)
    obtain ⟨Ao133, co133, eo133⟩ := Kd.R_slice HO_209000.out
    (first | subst eo133 | (injection eo133 with f1_ f2_ f3_; have f4_ := f1_.symm; have f5_ := f3_.symm; clear f1_ f2_ f3_; subst f4_; subst f5_))
    obtain ⟨Ao135, co135, eo135⟩ := Kd.R_slice HO_210000.out
    (first | subst eo135 | (injection eo135 with f1_ f2_ f3_; have f4_ := f1_.symm; have f5_ := f3_.symm; clear f1_ f2_ f3_; subst f4_; subst f5_))
    refine start_ (n := 4) (S := fun w' => w'.cell? ⟨gb208, 0, none⟩ = some (.slice Ao133 x209000_1.length co133) ∧ w'.cell? ⟨gb209, 0, none⟩ = some (.slice Ao135 x210000_1.length co135)) (ds := []) #[zF, zF, zF, zF] (by kernel_rfl) rfl rfl ⟨zc0 BK208 0 rfl, zc0 BK209 0 rfl⟩ (fun hHeld => ?_)
    generalize wr.drew = w132 at HO_209000 HO_210000 BK199 BK200 BK201 BK208 BK209 HB hHeld ⊢
    refine take_ (i := 0) (N := some 97) (v := ?_) (a' := ?_) #[zT, zF, zF, zF] rfl rfl (by kernel_rfl) (fun _ _ _ h => h) (Or.inl ⟨by rfl, ?_⟩) hHeld ?_ ?_
    rotate_left
    ·rintro w' ⟨s0, s1⟩
     go_simp
     with_reducible rfl
    rotate_left
    ·simp only [Act.put, zp1, zp2, zp3, i64_w, i32_w]
     rfl
    refine take_ (i := 1) (N := some 98) (v := ?_) (a' := ?_) #[zT, zT, zF, zF] rfl rfl (by kernel_rfl) (fun _ _ _ h => h) (Or.inl ⟨by rfl, ?_⟩) hHeld ?_ ?_
    rotate_left
    ·rintro w' ⟨s0, s1⟩
     go_simp
     with_reducible rfl
    rotate_left
    ·simp only [Act.put, zp1, zp2, zp3, i64_w, i32_w]
     rfl
    refine one_ (i := 2) (N := none) #[zT, zT, zT, zF] rfl rfl (by kernel_rfl) (by decide) (fun K hK => ?_)
    have hs134 : w132.cell? ⟨gb200, 0, none⟩ = some (.slice none 0 0) := zc0 BK200 0 rfl
    have hfs134 := blk_frozen BK200.out 0
    have hns134_0 := NB199_200.out
    have hns134_2 := NB201_200.out
    have hns134_3 := NB208_200.out
    have hns134_4 := NB209_200.out
    have hms134_0 := NB200_199.out
    have hms134_2 := NB200_201.out
    have hms134_3 := NB200_208.out
    have hms134_4 := NB200_209.out
    refine skip_ (w1 := ?_) (by rfl) rfl ?_ ?_
    rotate_left
    ·go_simp
     rfl
    refine hK.out _ _ ⟨((zfar NB208_200).trans (hHeld.1)), ((zfar NB209_200).trans (hHeld.2))⟩ (fun hHeld => ?_)
    clear hK K
    refine one_ (i := 3) (N := none) #[zT, zT, zT, zT] rfl rfl (by kernel_rfl) (by decide) (fun K hK => ?_)
    have hs136 : w132.cell? ⟨gb201, 0, none⟩ = some (.slice none 0 0) := zc0 BK201 0 rfl
    have hfs136 := blk_frozen BK201.out 0
    have hns136_0 := NB199_201.out
    have hns136_1 := NB200_201.out
    have hns136_3 := NB208_201.out
    have hns136_4 := NB209_201.out
    have hms136_0 := NB201_199.out
    have hms136_1 := NB201_200.out
    have hms136_3 := NB201_208.out
    have hms136_4 := NB201_209.out
    refine skip_ (w1 := ?_) (by rfl) rfl ?_ ?_
    rotate_left
    ·go_simp
     rfl
    refine hK.out _ _ ⟨((zfar NB208_201).trans (hHeld.1)), ((zfar NB209_201).trans (hHeld.2))⟩ (fun hHeld => ?_)
    clear hK K
    refine done_ (by kernel_rfl) ?_
    try go_wp2
    refine bodyPost_ret (results_cc rfl _ _ gb200 gb201 32 32 #[.slice Ao133 x209000_1.length co133] #[.slice Ao135 x210000_1.length co135] (0, 0) (0, 0) _ _ rfl (by (with_reducible repeat (first | refine blk_drewN ?_ _ | refine blk_drew ?_ | refine blk_alloc ?_ _)); refine blk_far ?_ NB200_201.out _; refine blk_put (cs := #[.slice none 0 0]) ?_ 0 _ rfl; (with_reducible repeat (first | refine blk_drewN ?_ _ | refine blk_drew ?_ | refine blk_alloc ?_ _)); exact BK200.out) Try.underlying32 rfl (by kernel_rfl) rfl (by (with_reducible repeat (first | refine blk_drewN ?_ _ | refine blk_drew ?_ | refine blk_alloc ?_ _)); refine blk_put (cs := #[.slice none 0 0]) ?_ 0 _ rfl; refine blk_far ?_ NB201_200.out _; (with_reducible repeat (first | refine blk_drewN ?_ _ | refine blk_drew ?_ | refine blk_alloc ?_ _)); exact BK201.out) Try.underlying32 rfl (by kernel_rfl)) rfl ?_
    exact ⟨_, _, by first | rfl | (simp <;> rfl) | (simp [*] <;> rfl), by (with_reducible repeat (first | apply Kd.R_alloc | apply Kd.R_drewN | apply Kd.R_drew)); exact Kd.R_mono (Kd.R_far (p := ⟨gb201, 0, none⟩) (Kd.R_far (p := ⟨gb200, 0, none⟩) (Kd.R_types (Kd.R_types HO_209000.out BK200.out (by decide)) BK201.out (by decide)) (fun _ hk => hk.1.2) (.slice Ao133 x209000_1.length co133)) (fun _ hk => hk.2) (.slice Ao135 x210000_1.length co135)) (fun _ hk => hk.1.1), by (with_reducible repeat (first | apply Kd.R_alloc | apply Kd.R_drewN | apply Kd.R_drew)); exact Kd.R_mono (Kd.R_far (p := ⟨gb201, 0, none⟩) (Kd.R_far (p := ⟨gb200, 0, none⟩) (Kd.R_types (Kd.R_types HO_210000.out BK200.out (by decide)) BK201.out (by decide)) (fun _ hk => hk.1.2) (.slice Ao133 x209000_1.length co133)) (fun _ hk => hk.2) (.slice Ao135 x210000_1.length co135)) (fun _ hk => hk.1.1), by repeat (first | exact zh0 HB | refine below_set ?_ GE199.out | refine below_set ?_ GE200.out | refine below_set ?_ GE201.out | refine below_set ?_ GE208.out | refine below_set ?_ GE209.out)⟩

open Go.Proofs.Ytldkbeccpheckab.Cp
/-! ### spec_SplitRope: function 23 -/
def spec_SplitRope.f (k : Nat) (l0_0 : List (List Int)) (l1_0 : List (S61)) (a2 : Int) : Option ((List (S61)) × (List (S61)) × Bool) := (spec_l7Cut.f k l0_0 l1_0 a2).bind fun t237 => (if t237 = true then ((spec_l7Split.f k l1_0 a2).bind fun bt238 => (some (bt238.1, bt238.2, true))) else (some (([] : List (S61)), ([] : List (S61)), false)))
theorem spec_SplitRope.mono : ∀ a0 a1 a2 k, LeO (spec_SplitRope.f k a0 a1 a2) (spec_SplitRope.f (k + 1) a0 a1 a2) := by
 intro a0 a1 a2 k
 unfold spec_SplitRope.f
 repeat' first
   | (with_reducible exact spec_l7Cut.mono _ _ _ _)
   | (with_reducible exact spec_l7Split.mono _ _ _)
   | (with_reducible exact LeO.refl _)
   | (with_reducible exact LeO.none _)
   | (with_reducible refine LeO.ite ?_ ?_)
   | (with_reducible refine LeO.bind ?_ (fun _ => ?_))
   | exact spec_l7Cut.mono _ _ _ _
   | exact spec_l7Split.mono _ _ _
   | exact LeO.none _
   | refine LeO.ite ?_ ?_
   | refine LeO.bind ?_ (fun _ => ?_)
set_option maxHeartbeats 8000000 in
set_option maxRecDepth 100000 in
theorem spec_SplitRope.calls (k : Nat) (A0_0 : Option Addr) (c0_0 : Nat) (l0_0 : List (List Int)) (A1_0 : Option Addr) (c1_0 : Nat) (l1_0 : List (S61)) (a2 : Int) (r1 : List (S61)) (r2 : List (S61)) (r3 : Bool) (w : World) (hr0_0 : Kd.C (Kd.slice 5 (Kd.int .u8)) w A0_0 l0_0.length l0_0) (hc0_0 : l0_0.length ≤ c0_0) (hr1_0 : Kd.C k61 w A1_0 l1_0.length l1_0) (hc1_0 : l1_0.length ≤ c1_0) (h : spec_SplitRope.f k l0_0 l1_0 a2 = some (r1, r2, r3)) :
  Calls Try.prog 23 #[.agg #[.slice A0_0 l0_0.length c0_0], .agg #[.slice A1_0 l1_0.length c1_0], .int .i64 a2] w fun e w' => ∃ v0_ v1_ : Value, e = .returned (.tuple #[.agg #[v0_], .agg #[v1_], .bool r3]) ∧ Kd.R k61 61 w' w.heap.size (fun k_ => some k_ ≠ (v1_ : Value).ownBlock) v0_ r1 ∧ Kd.R k61 61 w' w.heap.size (fun k_ => some k_ ≠ (v0_ : Value).ownBlock) v1_ r2 ∧ Below w.heap.size w w' := by
 have hu35 := Try.underlying35
 have hu32 := Try.underlying32
 have HR0_0 := Aside0.mk hr0_0
 have HC0_0 := Aside0.mk hc0_0
 clear hr0_0 hc0_0
 have HR1_0 := Aside0.mk hr1_0
 have HC1_0 := Aside0.mk hc1_0
 clear hr1_0 hc1_0
 have HB := Aside0.mk (Below.refl w.heap.size w)
 have H : ((spec_l7Cut.f k l0_0 l1_0 a2).bind fun t237 => (if t237 = true then ((spec_l7Split.f k l1_0 a2).bind fun bt238 => (some (bt238.1, bt238.2, true))) else (some (([] : List (S61)), ([] : List (S61)), false)))) = some (r1, r2, r3) := h
 clear h
 replace H := Option.bind_eq_some_iff.mp H
 obtain ⟨t237, A40, H⟩ := H
 replace H : (if t237 = true then ((spec_l7Split.f k l1_0 a2).bind fun bt238 => (some (bt238.1, bt238.2, true))) else (some (([] : List (S61)), ([] : List (S61)), false))) = some (r1, r2, r3) := H
 have A4 := Aside0.mk A40
 clear A40
 by_cases c5 : t237 = true
 ·subst c5
  have H1 : ((spec_l7Split.f k l1_0 a2).bind fun bt238 => (some (bt238.1, bt238.2, true))) = some (r1, r2, r3) := by rw [if_pos rfl] at H; exact H
  clear H
  have H := H1
  clear H1
  replace H := Option.bind_eq_some_iff.mp H
  obtain ⟨⟨t238, t241⟩, A60, H⟩ := H
  replace H : (some (t238, t241, true)) = some (r1, r2, r3) := H
  have A6 := Aside0.mk A60
  clear A60
  simp only [Option.some.injEq, Prod.mk.injEq] at H
  obtain ⟨rfl, rfl, rfl⟩ := H
  go_enter Try.func23, Try.ntmps23
  try go_wp2_with (first | ((with_reducible refine gate_dst (N := 3) rfl ?_); refine box_event ?hg (N := 3) ?hd (cs := #[.slice A0_0 l0_0.length c0_0]) (t := 35) ?hr ?_; (case hd => rfl); (case hg => rfl); (case hr => first | (go_simp; done) | (go_simp; rfl)); intro gb233 hg w7 hbox hb; have BK233 := Aside0.mk (hbox); have GW233 := zge HB hg; have GE233 := zge HB hg; replace HB := zhs HB hb; clear hb hbox hg) | ((with_reducible refine gate_dst (N := 4) rfl ?_); refine box_event ?hg (N := 4) ?hd (cs := #[.slice A1_0 l1_0.length c1_0]) (t := 32) ?hr ?_; (case hd => rfl); (case hg => rfl); (case hr => first | (go_simp; done) | (go_simp; rfl)); intro gb234 hg w8 hbox hb; have BK234 := Aside0.mk (hbox); have GW234 := zge HB hg; have GE234 := zge HB hg; have NB233_234 := znl BK233 hg; have NB234_233 := znr BK233 hg; replace BK233 := zb0 BK233 hb; replace HB := zhs HB hb; clear hb hbox hg) | ((with_reducible refine gate_dst (N := 6) rfl ?_); refine box_event ?hg (N := 6) ?hd (cs := #[.slice none 0 0]) (t := 32) ?hr ?_; (case hd => rfl); (case hg => rfl); (case hr => first | (go_simp; done) | (go_simp; rfl)); intro gb235 hg w9 hbox hb; have BK235 := Aside0.mk (hbox); have GW235 := zge HB hg; have GE235 := zge HB hg; have NB233_235 := znl BK233 hg; have NB235_233 := znr BK233 hg; have NB234_235 := znl BK234 hg; have NB235_234 := znr BK234 hg; replace BK233 := zb0 BK233 hb; replace BK234 := zb0 BK234 hb; replace HB := zhs HB hb; clear hb hbox hg) | ((with_reducible refine gate_dst (N := 7) rfl ?_); refine box_event ?hg (N := 7) ?hd (cs := #[.slice none 0 0]) (t := 32) ?hr ?_; (case hd => rfl); (case hg => rfl); (case hr => first | (go_simp; done) | (go_simp; rfl)); intro gb236 hg w10 hbox hb; have BK236 := Aside0.mk (hbox); have GW236 := zge HB hg; have GE236 := zge HB hg; have NB233_236 := znl BK233 hg; have NB236_233 := znr BK233 hg; have NB234_236 := znl BK234 hg; have NB236_234 := znr BK234 hg; have NB235_236 := znl BK235 hg; have NB236_235 := znr BK235 hg; replace BK233 := zb0 BK233 hb; replace BK234 := zb0 BK234 hb; replace BK235 := zb0 BK235 hb; replace HB := zhs HB hb; clear hb hbox hg; have hnb11 := NB233_234.out; have hnc11 := NB234_233.out; have hnb12 := NB233_235.out; have hnc12 := NB235_233.out; have hnb13 := NB233_236.out; have hnc13 := NB236_233.out; have hcz14_0 := zc0 BK233 0 rfl; have hfz14_0 := blk_frozen BK233.out 0; have hnb15 := NB234_235.out; have hnc15 := NB235_234.out; have hnb16 := NB234_236.out; have hnc16 := NB236_234.out; have hcz17_0 := zc0 BK234 0 rfl; have hfz17_0 := blk_frozen BK234.out 0) | ((with_reducible refine gate_callee (f := 98) rfl ?_); refine goesL_ (some 14) rfl rfl Try.func98 (by kernel_rfl) rfl #[.agg #[.slice A0_0 l0_0.length c0_0], .agg #[.slice A1_0 l1_0.length c1_0], .int .i64 a2] rfl (by (try simp only [zq1, zq2, zq3]); first | done | rfl | (simp only [List.length_drop, List.length_take]; rfl)) ?_; (with_reducible refine (spec_l7Cut.calls k _ _ l0_0 _ _ l1_0 a2 true _ ?side1 ?side2 ?side3 ?side4 A4.out).mono ?_); (case side1 => exact Kd.C_below HR0_0.out (zh0 HB)); (case side2 => exact HC0_0.out); (case side3 => exact Kd.C_below HR1_0.out (zh0 HB)); (case side4 => exact HC1_0.out); rintro e w18 ⟨rfl, hb⟩; refine ⟨_, rfl, ?_⟩; replace BK233 := zb0 BK233 hb; replace BK234 := zb0 BK234 hb; replace BK235 := zb0 BK235 hb; replace BK236 := zb0 BK236 hb; replace HB := zhs HB hb; (try clear hb); have hcz19_0 := zc0 BK234 0 rfl; have hfz19_0 := blk_frozen BK234.out 0) | ((with_reducible refine gate_callee (f := 99) rfl ?_); refine goesL_ (some 21) rfl rfl Try.func99 (by kernel_rfl) rfl #[.agg #[.slice A1_0 l1_0.length c1_0], .int .i64 a2] rfl (by (try simp only [zq1, zq2, zq3]); first | done | rfl | (simp only [List.length_drop, List.length_take]; rfl)) ?_; (with_reducible refine (spec_l7Split.calls k _ _ l1_0 a2 t238 t241 _ ?side1 ?side2 A6.out).mono ?_); (case side1 => exact Kd.C_below HR1_0.out (zh0 HB)); (case side2 => exact HC1_0.out); rintro e w20 ⟨v239, v242, rfl, ho0, ho1, hb⟩; refine ⟨_, rfl, ?_⟩; have HO240 := Aside0.mk (Kd.R_lower ho0 (below_size (zh0 HB))); have HO243 := Aside0.mk (Kd.R_lower ho1 (below_size (zh0 HB))); replace BK233 := zb0 BK233 hb; replace BK234 := zb0 BK234 hb; replace BK235 := zb0 BK235 hb; replace BK236 := zb0 BK236 hb; replace HB := zhs HB hb; (try clear hb); (try clear ho0); (try clear ho1)) | ((with_reducible refine gate_dst (N := 9) rfl ?_); refine box_event ?hg (N := 9) ?hd (cs := #[.slice none 0 0]) (t := 32) ?hr ?_; (case hd => rfl); (case hg => rfl); (case hr => first | (go_simp; done) | (go_simp; rfl)); intro gb244 hg w21 hbox hb; have BK244 := Aside0.mk (hbox); have GW244 := zge HB hg; have GE244 := zge HB hg; have NB233_244 := znl BK233 hg; have NB244_233 := znr BK233 hg; have NB234_244 := znl BK234 hg; have NB244_234 := znr BK234 hg; have NB235_244 := znl BK235 hg; have NB244_235 := znr BK235 hg; have NB236_244 := znl BK236 hg; have NB244_236 := znr BK236 hg; replace HO240 := zrb HO240 hb; replace HO243 := zrb HO243 hb; replace BK233 := zb0 BK233 hb; replace BK234 := zb0 BK234 hb; replace BK235 := zb0 BK235 hb; replace BK236 := zb0 BK236 hb; replace HB := zhs HB hb; clear hb hbox hg) | ((with_reducible refine gate_dst (N := 10) rfl ?_); refine box_event ?hg (N := 10) ?hd (cs := #[.slice none 0 0]) (t := 32) ?hr ?_; (case hd => rfl); (case hg => rfl); (case hr => first | (go_simp; done) | (go_simp; rfl)); intro gb245 hg w22 hbox hb; have BK245 := Aside0.mk (hbox); have GW245 := Aside0.mk ((by rw [hg]; exact (below_size (by repeat (first | exact zh0 HB | refine below_set ?_ GE233.out | refine below_set ?_ GE234.out | refine below_set ?_ GE235.out | refine below_set ?_ GE236.out | refine below_set ?_ GE244.out))) : w.heap.size ≤ gb245)); have GE245 := Aside0.mk ((by rw [hg]; exact (below_size (by repeat (first | exact zh0 HB | refine below_set ?_ GE233.out | refine below_set ?_ GE234.out | refine below_set ?_ GE235.out | refine below_set ?_ GE236.out | refine below_set ?_ GE244.out))) : w.heap.size ≤ gb245)); have NB233_245 := znl BK233 hg; have NB245_233 := znr BK233 hg; have NB234_245 := znl BK234 hg; have NB245_234 := znr BK234 hg; have NB235_245 := znl BK235 hg; have NB245_235 := znr BK235 hg; have NB236_245 := znl BK236 hg; have NB245_236 := znr BK236 hg; have NB244_245 := znl BK244 hg; have NB245_244 := znr BK244 hg; replace HO240 := zrb HO240 hb; replace HO243 := zrb HO243 hb; replace BK233 := zb0 BK233 hb; replace BK234 := zb0 BK234 hb; replace BK235 := zb0 BK235 hb; replace BK236 := zb0 BK236 hb; replace BK244 := zb0 BK244 hb; replace HB := Aside0.mk (below_step (by repeat (first | exact zh0 HB | refine below_set ?_ GE233.out | refine below_set ?_ GE234.out | refine below_set ?_ GE235.out | refine below_set ?_ GE236.out | refine below_set ?_ GE244.out)) hb); clear hb hbox hg; obtain ⟨Ao23, co23, eo23⟩ := Kd.R_slice HO240.out; subst eo23; have hnb24 := NB244_233.out; have hnc24 := NB233_244.out; have hnb25 := NB244_234.out; have hnc25 := NB234_244.out; have hnb26 := NB244_235.out; have hnc26 := NB235_244.out; have hnb27 := NB244_236.out; have hnc27 := NB236_244.out; have hnb28 := NB244_245.out; have hnc28 := NB245_244.out; have hcz29_0 := zc0 BK244 0 rfl; have hfz29_0 := blk_frozen BK244.out 0; obtain ⟨Ao30, co30, eo30⟩ := Kd.R_slice HO243.out; subst eo30; have hnb31 := NB245_233.out; have hnc31 := NB233_245.out; have hnb32 := NB245_234.out; have hnc32 := NB234_245.out; have hnb33 := NB245_235.out; have hnc33 := NB235_245.out; have hnb34 := NB245_236.out; have hnc34 := NB236_245.out; have hcz35_0 := zc0 BK245 0 rfl; have hfz35_0 := blk_frozen BK245.out 0))
  have n0_ : Aside0 (Kd.R k61 61 ((w22.setCell ⟨gb244, 0, none⟩ (.slice Ao23 t238.length co23)).setCell ⟨gb245, 0, none⟩ (.slice Ao30 t241.length co30)) w.heap.size (fun k_ => some k_ ≠ (.slice Ao30 t241.length co30 : Value).ownBlock) (.slice Ao23 t238.length co23) t238) := ⟨by (with_reducible repeat (first | apply Kd.R_alloc | apply Kd.R_drewN | apply Kd.R_drew)); exact Kd.R_mono (Kd.R_far (p := ⟨gb245, 0, none⟩) (Kd.R_far (p := ⟨gb244, 0, none⟩) (Kd.R_types (Kd.R_types HO240.out BK244.out (by decide)) BK245.out (by decide)) (fun _ hk => hk.1.2) (.slice Ao23 t238.length co23)) (fun _ hk => hk.2) (.slice Ao30 t241.length co30)) (fun _ hk => hk.1.1)⟩
  have n1_ : Aside0 (Kd.R k61 61 ((w22.setCell ⟨gb244, 0, none⟩ (.slice Ao23 t238.length co23)).setCell ⟨gb245, 0, none⟩ (.slice Ao30 t241.length co30)) w.heap.size (fun k_ => some k_ ≠ (.slice Ao23 t238.length co23 : Value).ownBlock) (.slice Ao30 t241.length co30) t241) := ⟨by (with_reducible repeat (first | apply Kd.R_alloc | apply Kd.R_drewN | apply Kd.R_drew)); exact Kd.R_mono (Kd.R_far (p := ⟨gb245, 0, none⟩) (Kd.R_far (p := ⟨gb244, 0, none⟩) (Kd.R_types (Kd.R_types HO243.out BK244.out (by decide)) BK245.out (by decide)) (fun _ hk => hk.1.2) (.slice Ao23 t238.length co23)) (fun _ hk => hk.2) (.slice Ao30 t241.length co30)) (fun _ hk => hk.1.1)⟩
  have n2_ : Aside0 (((w22.setCell ⟨gb244, 0, none⟩ (.slice Ao23 t238.length co23)).setCell ⟨gb245, 0, none⟩ (.slice Ao30 t241.length co30)).heap[gb233]? = some (.cells #[.slice A0_0 l0_0.length c0_0] 35 (0, 0))) := ⟨by (with_reducible repeat (first | refine blk_drewN ?_ _ | refine blk_drew ?_ | refine blk_alloc ?_ _)); refine blk_far ?_ NB233_245.out _; refine blk_far ?_ NB233_244.out _; (with_reducible repeat (first | refine blk_drewN ?_ _ | refine blk_drew ?_ | refine blk_alloc ?_ _)); exact BK233.out⟩
  have n3_ : Aside0 (((w22.setCell ⟨gb244, 0, none⟩ (.slice Ao23 t238.length co23)).setCell ⟨gb245, 0, none⟩ (.slice Ao30 t241.length co30)).heap[gb234]? = some (.cells #[.slice A1_0 l1_0.length c1_0] 32 (0, 0))) := ⟨by (with_reducible repeat (first | refine blk_drewN ?_ _ | refine blk_drew ?_ | refine blk_alloc ?_ _)); refine blk_far ?_ NB234_245.out _; refine blk_far ?_ NB234_244.out _; (with_reducible repeat (first | refine blk_drewN ?_ _ | refine blk_drew ?_ | refine blk_alloc ?_ _)); exact BK234.out⟩
  have n4_ : Aside0 (((w22.setCell ⟨gb244, 0, none⟩ (.slice Ao23 t238.length co23)).setCell ⟨gb245, 0, none⟩ (.slice Ao30 t241.length co30)).heap[gb235]? = some (.cells #[.slice none 0 0] 32 (0, 0))) := ⟨by (with_reducible repeat (first | refine blk_drewN ?_ _ | refine blk_drew ?_ | refine blk_alloc ?_ _)); refine blk_far ?_ NB235_245.out _; refine blk_far ?_ NB235_244.out _; (with_reducible repeat (first | refine blk_drewN ?_ _ | refine blk_drew ?_ | refine blk_alloc ?_ _)); exact BK235.out⟩
  have n5_ : Aside0 (((w22.setCell ⟨gb244, 0, none⟩ (.slice Ao23 t238.length co23)).setCell ⟨gb245, 0, none⟩ (.slice Ao30 t241.length co30)).heap[gb236]? = some (.cells #[.slice none 0 0] 32 (0, 0))) := ⟨by (with_reducible repeat (first | refine blk_drewN ?_ _ | refine blk_drew ?_ | refine blk_alloc ?_ _)); refine blk_far ?_ NB236_245.out _; refine blk_far ?_ NB236_244.out _; (with_reducible repeat (first | refine blk_drewN ?_ _ | refine blk_drew ?_ | refine blk_alloc ?_ _)); exact BK236.out⟩
  have n6_ : Aside0 (((w22.setCell ⟨gb244, 0, none⟩ (.slice Ao23 t238.length co23)).setCell ⟨gb245, 0, none⟩ (.slice Ao30 t241.length co30)).heap[gb244]? = some (.cells #[.slice Ao23 t238.length co23] 32 (0, 0))) := ⟨by (with_reducible repeat (first | refine blk_drewN ?_ _ | refine blk_drew ?_ | refine blk_alloc ?_ _)); refine blk_far ?_ NB244_245.out _; refine blk_put (cs := #[.slice none 0 0]) ?_ 0 _ rfl; (with_reducible repeat (first | refine blk_drewN ?_ _ | refine blk_drew ?_ | refine blk_alloc ?_ _)); exact BK244.out⟩
  have n7_ : Aside0 (((w22.setCell ⟨gb244, 0, none⟩ (.slice Ao23 t238.length co23)).setCell ⟨gb245, 0, none⟩ (.slice Ao30 t241.length co30)).heap[gb245]? = some (.cells #[.slice Ao30 t241.length co30] 32 (0, 0))) := ⟨by (with_reducible repeat (first | refine blk_drewN ?_ _ | refine blk_drew ?_ | refine blk_alloc ?_ _)); refine blk_put (cs := #[.slice none 0 0]) ?_ 0 _ rfl; refine blk_far ?_ NB245_244.out _; (with_reducible repeat (first | refine blk_drewN ?_ _ | refine blk_drew ?_ | refine blk_alloc ?_ _)); exact BK245.out⟩
  have n8_ : Aside0 (Below w.heap.size w ((w22.setCell ⟨gb244, 0, none⟩ (.slice Ao23 t238.length co23)).setCell ⟨gb245, 0, none⟩ (.slice Ao30 t241.length co30))) := ⟨by repeat (first | exact zh0 HB | refine below_set ?_ GE233.out | refine below_set ?_ GE234.out | refine below_set ?_ GE235.out | refine below_set ?_ GE236.out | refine below_set ?_ GE244.out | refine below_set ?_ GE245.out)⟩
  (try clear HO240)
  (try clear HO243)
  (try clear BK233)
  (try clear BK234)
  (try clear BK235)
  (try clear BK236)
  (try clear BK244)
  (try clear BK245)
  (try clear HB)
  generalize ((w22.setCell ⟨gb244, 0, none⟩ (.slice Ao23 t238.length co23)).setCell ⟨gb245, 0, none⟩ (.slice Ao30 t241.length co30)) = w36 at n0_ n1_ n2_ n3_ n4_ n5_ n6_ n7_ n8_ ⊢
  have HO240 := n0_
  have HO243 := n1_
  have BK233 := n2_
  have BK234 := n3_
  have BK235 := n4_
  have BK236 := n5_
  have BK244 := n6_
  have BK245 := n7_
  have HB := n8_
  clear n0_ n1_ n2_ n3_ n4_ n5_ n6_ n7_ n8_
  replace HO240 := Aside0.mk (Kd.R_drew HO240.out)
  replace HO243 := Aside0.mk (Kd.R_drew HO243.out)
  replace BK233 := Aside0.mk (blk_drew BK233.out)
  replace BK234 := Aside0.mk (blk_drew BK234.out)
  replace BK235 := Aside0.mk (blk_drew BK235.out)
  replace BK236 := Aside0.mk (blk_drew BK236.out)
  replace BK244 := Aside0.mk (blk_drew BK244.out)
  replace BK245 := Aside0.mk (blk_drew BK245.out)
  replace HB := Aside0.mk (below_drew1 HB.out)
  refine start_ (n := 5) (S := fun w' => w'.cell? ⟨gb244, 0, none⟩ = some (.slice Ao23 t238.length co23) ∧ w'.cell? ⟨gb245, 0, none⟩ = some (.slice Ao30 t241.length co30)) (ds := []) #[zF, zF, zF, zF, zF] (by kernel_rfl) rfl rfl ⟨zc0 BK244 0 rfl, zc0 BK245 0 rfl⟩ (fun hHeld => ?_)
  generalize w36.drew = w37 at HO240 HO243 BK233 BK234 BK235 BK236 BK244 BK245 HB hHeld ⊢
  refine take_ (i := 0) (N := some 24) (v := ?_) (a' := ?_) #[zT, zF, zF, zF, zF] rfl rfl (by kernel_rfl) (fun _ _ _ h => h) (Or.inl ⟨by rfl, ?_⟩) hHeld ?_ ?_
  rotate_left
  ·rintro w' ⟨s0, s1⟩
   go_simp
   with_reducible rfl
  rotate_left
  ·simp only [Act.put, zp1, zp2, zp3, i64_w, i32_w]
   rfl
  refine take_ (i := 1) (N := some 25) (v := ?_) (a' := ?_) #[zT, zT, zF, zF, zF] rfl rfl (by kernel_rfl) (fun _ _ _ h => h) (Or.inl ⟨by rfl, ?_⟩) hHeld ?_ ?_
  rotate_left
  ·rintro w' ⟨s0, s1⟩
   go_simp
   with_reducible rfl
  rotate_left
  ·simp only [Act.put, zp1, zp2, zp3, i64_w, i32_w]
   rfl
  refine one_ (i := 2) (N := none) #[zT, zT, zT, zF, zF] rfl rfl (by kernel_rfl) (by decide) (fun K hK => ?_)
  have hs38 : w37.cell? ⟨gb235, 0, none⟩ = some (.slice none 0 0) := zc0 BK235 0 rfl
  have hfs38 := blk_frozen BK235.out 0
  have hns38_0 := NB233_235.out
  have hns38_1 := NB234_235.out
  have hns38_3 := NB236_235.out
  have hns38_4 := NB244_235.out
  have hns38_5 := NB245_235.out
  have hms38_0 := NB235_233.out
  have hms38_1 := NB235_234.out
  have hms38_3 := NB235_236.out
  have hms38_4 := NB235_244.out
  have hms38_5 := NB235_245.out
  refine skip_ (w1 := ?_) (by rfl) rfl ?_ ?_
  rotate_left
  ·go_simp
   rfl
  refine hK.out _ _ ⟨((zfar NB244_235).trans (hHeld.1)), ((zfar NB245_235).trans (hHeld.2))⟩ (fun hHeld => ?_)
  clear hK K
  refine one_ (i := 3) (N := none) #[zT, zT, zT, zT, zF] rfl rfl (by kernel_rfl) (by decide) (fun K hK => ?_)
  have hs39 : w37.cell? ⟨gb236, 0, none⟩ = some (.slice none 0 0) := zc0 BK236 0 rfl
  have hfs39 := blk_frozen BK236.out 0
  have hns39_0 := NB233_236.out
  have hns39_1 := NB234_236.out
  have hns39_2 := NB235_236.out
  have hns39_4 := NB244_236.out
  have hns39_5 := NB245_236.out
  have hms39_0 := NB236_233.out
  have hms39_1 := NB236_234.out
  have hms39_2 := NB236_235.out
  have hms39_4 := NB236_244.out
  have hms39_5 := NB236_245.out
  refine skip_ (w1 := ?_) (by rfl) rfl ?_ ?_
  rotate_left
  ·go_simp
   rfl
  refine hK.out _ _ ⟨((zfar NB244_236).trans (hHeld.1)), ((zfar NB245_236).trans (hHeld.2))⟩ (fun hHeld => ?_)
  clear hK K
  refine pure_ (i := 4) (N := some 8) (v := ?_) (a' := ?_) #[zT, zT, zT, zT, zT] rfl rfl (by kernel_rfl) (fun _ _ _ h => h) (Or.inl ⟨by rfl, ?_⟩) ?_ ?_
  rotate_left
  ·intro w'
   go_simp
   with_reducible rfl
  rotate_left
  ·simp only [Act.put, zp1, zp2, zp3, i64_w, i32_w]
   rfl
  refine done_ (by kernel_rfl) ?_
  try go_wp2
  refine bodyPost_ret (results_list (rs := [.cell 6 32, .cell 7 32, .tmp 8]) rfl (by simp) (.cell gb235 32 #[.slice Ao23 t238.length co23] (0, 0) _ rfl (by (with_reducible repeat (first | refine blk_drewN ?_ _ | refine blk_drew ?_ | refine blk_alloc ?_ _)); refine blk_far ?_ NB235_236.out _; refine blk_put (cs := #[.slice none 0 0]) ?_ 0 _ rfl; (with_reducible repeat (first | refine blk_drewN ?_ _ | refine blk_drew ?_ | refine blk_alloc ?_ _)); exact BK235.out) Try.underlying32 rfl (by kernel_rfl) (.cell gb236 32 #[.slice Ao30 t241.length co30] (0, 0) _ rfl (by (with_reducible repeat (first | refine blk_drewN ?_ _ | refine blk_drew ?_ | refine blk_alloc ?_ _)); refine blk_put (cs := #[.slice none 0 0]) ?_ 0 _ rfl; refine blk_far ?_ NB236_235.out _; (with_reducible repeat (first | refine blk_drewN ?_ _ | refine blk_drew ?_ | refine blk_alloc ?_ _)); exact BK236.out) Try.underlying32 rfl (by kernel_rfl) (.tmp .nil)))) rfl ?_
  exact ⟨_, _, by first | rfl | (simp <;> rfl) | (simp [*] <;> rfl), by (with_reducible repeat (first | apply Kd.R_alloc | apply Kd.R_drewN | apply Kd.R_drew)); exact Kd.R_mono (Kd.R_far (p := ⟨gb236, 0, none⟩) (Kd.R_far (p := ⟨gb235, 0, none⟩) (Kd.R_types (Kd.R_types HO240.out BK235.out (by decide)) BK236.out (by decide)) (fun _ hk => hk.1.2) (.slice Ao23 t238.length co23)) (fun _ hk => hk.2) (.slice Ao30 t241.length co30)) (fun _ hk => hk.1.1), by (with_reducible repeat (first | apply Kd.R_alloc | apply Kd.R_drewN | apply Kd.R_drew)); exact Kd.R_mono (Kd.R_far (p := ⟨gb236, 0, none⟩) (Kd.R_far (p := ⟨gb235, 0, none⟩) (Kd.R_types (Kd.R_types HO243.out BK235.out (by decide)) BK236.out (by decide)) (fun _ hk => hk.1.2) (.slice Ao23 t238.length co23)) (fun _ hk => hk.2) (.slice Ao30 t241.length co30)) (fun _ hk => hk.1.1), by repeat (first | exact zh0 HB | refine below_set ?_ GE233.out | refine below_set ?_ GE234.out | refine below_set ?_ GE235.out | refine below_set ?_ GE236.out | refine below_set ?_ GE244.out | refine below_set ?_ GE245.out)⟩
 ·replace c5 := Bool.eq_false_iff.mpr c5
  subst c5
  have H1 : (some (([] : List (S61)), ([] : List (S61)), false)) = some (r1, r2, r3) := by rw [if_neg (show ¬ (false = true) by decide)] at H; exact H
  clear H
  have H := H1
  clear H1
  simp only [Option.some.injEq, Prod.mk.injEq] at H
  obtain ⟨rfl, rfl, rfl⟩ := H
  go_enter Try.func23, Try.ntmps23
  go_wp2_with (first | ((with_reducible refine gate_dst (N := 3) rfl ?_); refine box_event ?hg (N := 3) ?hd (cs := #[.slice A0_0 l0_0.length c0_0]) (t := 35) ?hr ?_; (case hd => rfl); (case hg => rfl); (case hr => first | (go_simp; done) | (go_simp; rfl)); intro gb233 hg w40 hbox hb; have BK233 := Aside0.mk (hbox); have GW233 := zge HB hg; have GE233 := zge HB hg; replace HB := zhs HB hb; clear hb hbox hg) | ((with_reducible refine gate_dst (N := 4) rfl ?_); refine box_event ?hg (N := 4) ?hd (cs := #[.slice A1_0 l1_0.length c1_0]) (t := 32) ?hr ?_; (case hd => rfl); (case hg => rfl); (case hr => first | (go_simp; done) | (go_simp; rfl)); intro gb234 hg w41 hbox hb; have BK234 := Aside0.mk (hbox); have GW234 := zge HB hg; have GE234 := zge HB hg; have NB233_234 := znl BK233 hg; have NB234_233 := znr BK233 hg; replace BK233 := zb0 BK233 hb; replace HB := zhs HB hb; clear hb hbox hg) | ((with_reducible refine gate_dst (N := 6) rfl ?_); refine box_event ?hg (N := 6) ?hd (cs := #[.slice none 0 0]) (t := 32) ?hr ?_; (case hd => rfl); (case hg => rfl); (case hr => first | (go_simp; done) | (go_simp; rfl)); intro gb235 hg w42 hbox hb; have BK235 := Aside0.mk (hbox); have GW235 := zge HB hg; have GE235 := zge HB hg; have NB233_235 := znl BK233 hg; have NB235_233 := znr BK233 hg; have NB234_235 := znl BK234 hg; have NB235_234 := znr BK234 hg; replace BK233 := zb0 BK233 hb; replace BK234 := zb0 BK234 hb; replace HB := zhs HB hb; clear hb hbox hg) | ((with_reducible refine gate_dst (N := 7) rfl ?_); refine box_event ?hg (N := 7) ?hd (cs := #[.slice none 0 0]) (t := 32) ?hr ?_; (case hd => rfl); (case hg => rfl); (case hr => first | (go_simp; done) | (go_simp; rfl)); intro gb236 hg w43 hbox hb; have BK236 := Aside0.mk (hbox); have GW236 := zge HB hg; have GE236 := zge HB hg; have NB233_236 := znl BK233 hg; have NB236_233 := znr BK233 hg; have NB234_236 := znl BK234 hg; have NB236_234 := znr BK234 hg; have NB235_236 := znl BK235 hg; have NB236_235 := znr BK235 hg; replace BK233 := zb0 BK233 hb; replace BK234 := zb0 BK234 hb; replace BK235 := zb0 BK235 hb; replace HB := zhs HB hb; clear hb hbox hg; have hnb44 := NB233_234.out; have hnc44 := NB234_233.out; have hnb45 := NB233_235.out; have hnc45 := NB235_233.out; have hnb46 := NB233_236.out; have hnc46 := NB236_233.out; have hcz47_0 := zc0 BK233 0 rfl; have hfz47_0 := blk_frozen BK233.out 0; have hnb48 := NB234_235.out; have hnc48 := NB235_234.out; have hnb49 := NB234_236.out; have hnc49 := NB236_234.out; have hcz50_0 := zc0 BK234 0 rfl; have hfz50_0 := blk_frozen BK234.out 0) | ((with_reducible refine gate_callee (f := 98) rfl ?_); refine goesL_ (some 14) rfl rfl Try.func98 (by kernel_rfl) rfl #[.agg #[.slice A0_0 l0_0.length c0_0], .agg #[.slice A1_0 l1_0.length c1_0], .int .i64 a2] rfl (by (try simp only [zq1, zq2, zq3]); first | done | rfl | (simp only [List.length_drop, List.length_take]; rfl)) ?_; (with_reducible refine (spec_l7Cut.calls k _ _ l0_0 _ _ l1_0 a2 false _ ?side1 ?side2 ?side3 ?side4 A4.out).mono ?_); (case side1 => exact Kd.C_below HR0_0.out (zh0 HB)); (case side2 => exact HC0_0.out); (case side3 => exact Kd.C_below HR1_0.out (zh0 HB)); (case side4 => exact HC1_0.out); rintro e w51 ⟨rfl, hb⟩; refine ⟨_, rfl, ?_⟩; replace BK233 := zb0 BK233 hb; replace BK234 := zb0 BK234 hb; replace BK235 := zb0 BK235 hb; replace BK236 := zb0 BK236 hb; replace HB := Aside0.mk (below_step (by repeat (first | exact zh0 HB | refine below_set ?_ GE233.out | refine below_set ?_ GE234.out | refine below_set ?_ GE235.out | refine below_set ?_ GE236.out)) hb); (try clear hb); have hnb52 := NB235_236.out; have hnc52 := NB236_235.out; have hcz53_0 := zc0 BK235 0 rfl; have hfz53_0 := blk_frozen BK235.out 0; have hcz54_0 := zc0 BK236 0 rfl; have hfz54_0 := blk_frozen BK236.out 0))
  refine bodyPost_ret (results_list (rs := [.cell 6 32, .cell 7 32, .tmp 8]) rfl (by simp) (.cell gb235 32 #[.slice none 0 0] (0, 0) _ rfl (by (with_reducible repeat (first | refine blk_drewN ?_ _ | refine blk_drew ?_ | refine blk_alloc ?_ _)); refine blk_far ?_ NB235_236.out _; refine blk_put (cs := #[.slice none 0 0]) ?_ 0 _ rfl; (with_reducible repeat (first | refine blk_drewN ?_ _ | refine blk_drew ?_ | refine blk_alloc ?_ _)); exact BK235.out) Try.underlying32 rfl (by kernel_rfl) (.cell gb236 32 #[.slice none 0 0] (0, 0) _ rfl (by (with_reducible repeat (first | refine blk_drewN ?_ _ | refine blk_drew ?_ | refine blk_alloc ?_ _)); refine blk_put (cs := #[.slice none 0 0]) ?_ 0 _ rfl; refine blk_far ?_ NB236_235.out _; (with_reducible repeat (first | refine blk_drewN ?_ _ | refine blk_drew ?_ | refine blk_alloc ?_ _)); exact BK236.out) Try.underlying32 rfl (by kernel_rfl) (.tmp .nil)))) rfl ?_
  exact ⟨_, _, by first | rfl | (simp <;> rfl) | (simp [*] <;> rfl), by first | exact Kd.R_nil _ _ _ _ _ | exact Kd.N_nil _ _ _ _ _ | exact Kd.V_nil _ _ _ _ _ | exact Kd.Q_nil _ _ _ _ _ | exact Kd.S_nil _ _ _ _ _, by first | exact Kd.R_nil _ _ _ _ _ | exact Kd.N_nil _ _ _ _ _ | exact Kd.V_nil _ _ _ _ _ | exact Kd.Q_nil _ _ _ _ _ | exact Kd.S_nil _ _ _ _ _, by repeat (first | exact zh0 HB | refine below_set ?_ GE233.out | refine below_set ?_ GE234.out | refine below_set ?_ GE235.out | refine below_set ?_ GE236.out)⟩

open Go.Proofs.Ytldkbeccpheckab.Cp
/-! ### impl_within: function 100 -/
def impl_within.f (a0 : Int) (a1 : Int) (a2 : Int) : Option (Bool) := if a0 ≥ a1 then (some (decide (a0 ≤ a2))) else (some false)
set_option maxHeartbeats 8000000 in
set_option maxRecDepth 100000 in
theorem impl_within.calls (a0 : Int) (a1 : Int) (a2 : Int) (r : Bool) (w : World) (h : impl_within.f a0 a1 a2 = some r) :
  Calls Try.prog 100 #[.int .i64 a0, .int .i64 a1, .int .i64 a2] w fun e w' => e = .returned (.bool r) ∧ Drawn0 w w' := by
 have H : (if a0 ≥ a1 then (some (decide (a0 ≤ a2))) else (some false)) = some r := h
 clear h
 by_cases c4 : a0 ≥ a1
 ·rw [if_pos c4] at H
  have c4b0 : decide (a1 ≤ a0) = true := decide_eq_true c4
  clear c4
  obtain rfl := Option.some.inj H
  go_enter Try.func100, Try.ntmps100
  go_wp2
  go_ret
  exact ⟨by first | rfl | (simp; done) | (simp [*]; done), by repeat (first | exact Drawn0.refl _ | apply Drawn0.step)⟩
 ·rw [if_neg c4] at H
  have c4b0 : decide (a1 ≤ a0) = false := decide_eq_false c4
  clear c4
  obtain rfl := Option.some.inj H
  go_enter Try.func100, Try.ntmps100
  go_wp2
  go_ret
  exact ⟨by first | rfl | (simp; done) | (simp [*]; done), by repeat (first | exact Drawn0.refl _ | apply Drawn0.step)⟩

open Go.Proofs.Ytldkbeccpheckab.Cp
/-! ### impl_IsMemory: function 175 -/
def impl_IsMemory.l0 : Nat → List (List Int) → Int → Int → List (List Int) → Option (Bool)
 | 0, _, _, _, _ => none
 | k + 1, x6, x7, x8, x247000 => if x8 < x7 then (if 0 ≤ x8 then (if x8 < (x6.length : Int) then ((impl_within.f ((rd_L1 x6 x8).length : Int) 1 64).bind fun t248 => (if t248 = true then (impl_IsMemory.l0 k x6 x7 (wrap64 (x8 + 1)) x247000) else (some false))) else (none)) else (none)) else (some (decide ((x247000.length : Int) ≤ 16)))
def impl_IsMemory.f (k : Nat) (l0_0 : List (List Int)) : Option (Bool) := impl_IsMemory.l0 k l0_0 (l0_0.length : Int) 0 l0_0
theorem impl_IsMemory.mono_l : ∀ k, (∀ y0 y1 y2 y3, LeO (impl_IsMemory.l0 k y0 y1 y2 y3) (impl_IsMemory.l0 (k + 1) y0 y1 y2 y3))
 | 0 => fun _ _ _ _ r h => by simp [impl_IsMemory.l0] at h
 | k + 1 => by
  have ih0 := impl_IsMemory.mono_l k
  ·intro y0 y1 y2 y3
   unfold impl_IsMemory.l0
   repeat' first
   | (with_reducible exact ih0 _ _ _ _)
   | (with_reducible exact LeO.refl _)
   | (with_reducible exact LeO.none _)
   | (with_reducible refine LeO.ite ?_ ?_)
   | (with_reducible refine LeO.bind ?_ (fun _ => ?_))
   | exact ih0 _ _ _ _
   | exact LeO.none _
   | refine LeO.ite ?_ ?_
   | refine LeO.bind ?_ (fun _ => ?_)
theorem impl_IsMemory.mono : ∀ a0 k, LeO (impl_IsMemory.f k a0) (impl_IsMemory.f (k + 1) a0) := by
 intro a0 k
 have ih0 := impl_IsMemory.mono_l k
 unfold impl_IsMemory.f
 repeat' first
   | (with_reducible exact ih0 _ _ _ _)
   | (with_reducible exact LeO.refl _)
   | (with_reducible exact LeO.none _)
   | (with_reducible refine LeO.ite ?_ ?_)
   | (with_reducible refine LeO.bind ?_ (fun _ => ?_))
   | exact ih0 _ _ _ _
   | exact LeO.none _
   | refine LeO.ite ?_ ?_
   | refine LeO.bind ?_ (fun _ => ?_)
set_option maxHeartbeats 8000000 in
set_option maxRecDepth 100000 in
theorem impl_IsMemory.calls (k : Nat) (A0_0 : Option Addr) (c0_0 : Nat) (l0_0 : List (List Int)) (r : Bool) (w : World) (hr0_0 : Kd.C (Kd.slice 5 (Kd.int .u8)) w A0_0 l0_0.length l0_0) (hc0_0 : l0_0.length ≤ c0_0) (h : impl_IsMemory.f k l0_0 = some r) :
  Calls Try.prog 175 #[.agg #[.slice A0_0 l0_0.length c0_0]] w fun e w' => e = .returned (.bool r) ∧ Below w.heap.size w w' := by
 have hu35 := Try.underlying35
 have HR0_0 := Aside0.mk hr0_0
 have HC0_0 := Aside0.mk hc0_0
 clear hr0_0 hc0_0
 have HB := Aside0.mk (Below.refl w.heap.size w)
 have H : (impl_IsMemory.l0 k l0_0 (l0_0.length : Int) 0 l0_0) = some r := h
 clear h
 have H' := Aside0.mk H
 clear H
 go_enter Try.func175, Try.ntmps175
 go_wp2_with (first | ((with_reducible refine gate_dst (N := 1) rfl ?_); refine box_event ?hg (N := 1) ?hd (cs := #[.slice A0_0 l0_0.length c0_0]) (t := 35) ?hr ?_; (case hd => rfl); (case hg => rfl); (case hr => first | (go_simp; done) | (go_simp; rfl)); intro gb246 hg w2 hbox hb; have BK246 := Aside0.mk (hbox); have GW246 := zge HB hg; have GE246 := zge HB hg; replace HB := zhs HB hb; clear hb hbox hg; have hcz3_0 := zc0 BK246 0 rfl; have hfz3_0 := blk_frozen BK246.out 0))
 go_loopg [8] k (fun kq v8 w' => ∃ (x8_1 : Int), v8 = .int .i64 x8_1 ∧ Aside0 (impl_IsMemory.l0 kq l0_0 (l0_0.length : Int) x8_1 l0_0 = some r) ∧ Aside0 (kq ≤ k) ∧ Aside0 (w'.heap[gb246]? = some (.cells #[(.slice A0_0 l0_0.length c0_0)] 35 (0, 0))) ∧ Aside0 (Below w.heap.size w w'))
 case atStart => exact ⟨(0), (by first | rfl | (simp; done) | (simp [*]; done)), H', ⟨Nat.le_refl _⟩, ⟨zk0 BK246⟩, ⟨by repeat (first | exact zh0 HB | refine below_set ?_ GE246.out)⟩⟩
 case round =>
  clear H'
  try clear c1
  try clear p2
  try clear hcz3_0
  try clear hfz3_0
  obtain ⟨x8_1, rfl, HA, HK1, BK246, HB⟩ := hrel
  cases gk with
  | zero => exact absurd HA.out (by simp [impl_IsMemory.l0])
  | succ k1 =>
   have H := HA.out
   clear HA
   simp only [impl_IsMemory.l0] at H
   by_cases c4 : x8_1 < (l0_0.length : Int)
   ·rw [if_pos c4] at H
    have c4b0 : decide (x8_1 < (l0_0.length : Int)) = true := decide_eq_true c4
    clear c4
    by_cases c5 : 0 ≤ x8_1
    ·rw [if_pos c5] at H
     have c5b0 : decide (0 ≤ x8_1) = true := decide_eq_true c5
     clear c5
     by_cases c6 : x8_1 < (l0_0.length : Int)
     ·rw [if_pos c6] at H
      have c6b0 : decide (x8_1 < (l0_0.length : Int)) = true := decide_eq_true c6
      clear c6
      replace H := Option.bind_eq_some_iff.mp H
      obtain ⟨t248, A70, H⟩ := H
      replace H : (if t248 = true then (impl_IsMemory.l0 k1 l0_0 (l0_0.length : Int) (wrap64 (x8_1 + 1)) l0_0) else (some false)) = some r := H
      have A7 := Aside0.mk A70
      clear A70
      by_cases c8 : t248 = true
      ·subst c8
       have H1 : (impl_IsMemory.l0 k1 l0_0 (l0_0.length : Int) (wrap64 (x8_1 + 1)) l0_0) = some r := by rw [if_pos rfl] at H; exact H
       clear H
       have H := H1
       clear H1
       have H' := Aside0.mk H
       clear H
       have p247 : 0 ≤ (x8_1 : Int) := of_decide_eq_true (by first | (with_reducible assumption) | assumption)
       have q247 : x8_1 < (l0_0.length : Int) := of_decide_eq_true (by first | (with_reducible assumption) | assumption)
       obtain ⟨ad247, A247_0, c247_0, e247, hx247_0, hl247_0, hi247_0⟩ := at_L1 HR0_0.out x8_1 p247 q247
       cases e247
       replace hx247_0 := (HB.out.cell (World.block_lt_of_cell? w _ hx247_0)).trans hx247_0
       have HR247_0 := Aside0.mk hi247_0
       have HC247_0 := Aside0.mk hl247_0
       clear hi247_0 hl247_0
       replace p247 := eq_true p247
       replace q247 := eq_true q247
       go_wp2_with (first | ((with_reducible refine gate_callee (f := 100) rfl ?_); refine goesL_ (some 14) rfl rfl Try.func100 (by kernel_rfl) rfl #[.int .i64 ((rd_L1 l0_0 x8_1).length : Int), .int .i64 1, .int .i64 64] rfl (by (try simp only [zq1, zq2, zq3]); first | done | rfl | (simp only [List.length_drop, List.length_take]; rfl)) ?_; (with_reducible refine (impl_within.calls ((rd_L1 l0_0 x8_1).length : Int) 1 64 true _ A7.out).mono ?_); rintro e w' ⟨rfl, ⟨nd, rfl⟩⟩; refine ⟨_, rfl, ?_⟩))
       go_roundg k1
       case measure => have := HK1.out; omega
       case rel => exact ⟨(wrap64 (x8_1 + 1)), (by first | rfl | (simp; done) | (simp [*]; done)), H', ⟨by have := HK1.out; omega⟩, ⟨zk0 BK246⟩, ⟨by repeat (first | exact zh0 HB | refine below_set ?_ GE246.out)⟩⟩
      ·replace c8 := Bool.eq_false_iff.mpr c8
       subst c8
       have H1 : (some false) = some r := by rw [if_neg (show ¬ (false = true) by decide)] at H; exact H
       clear H
       have H := H1
       clear H1
       obtain rfl := Option.some.inj H
       have p247 : 0 ≤ (x8_1 : Int) := of_decide_eq_true (by first | (with_reducible assumption) | assumption)
       have q247 : x8_1 < (l0_0.length : Int) := of_decide_eq_true (by first | (with_reducible assumption) | assumption)
       obtain ⟨ad247, A247_0, c247_0, e247, hx247_0, hl247_0, hi247_0⟩ := at_L1 HR0_0.out x8_1 p247 q247
       cases e247
       replace hx247_0 := (HB.out.cell (World.block_lt_of_cell? w _ hx247_0)).trans hx247_0
       have HR247_0 := Aside0.mk hi247_0
       have HC247_0 := Aside0.mk hl247_0
       clear hi247_0 hl247_0
       replace p247 := eq_true p247
       replace q247 := eq_true q247
       go_wp2_with (first | ((with_reducible refine gate_callee (f := 100) rfl ?_); refine goesL_ (some 14) rfl rfl Try.func100 (by kernel_rfl) rfl #[.int .i64 ((rd_L1 l0_0 x8_1).length : Int), .int .i64 1, .int .i64 64] rfl (by (try simp only [zq1, zq2, zq3]); first | done | rfl | (simp only [List.length_drop, List.length_take]; rfl)) ?_; (with_reducible refine (impl_within.calls ((rd_L1 l0_0 x8_1).length : Int) 1 64 false _ A7.out).mono ?_); rintro e w' ⟨rfl, ⟨nd, rfl⟩⟩; refine ⟨_, rfl, ?_⟩))
       go_ret
       exact ⟨by first | rfl | (simp <;> rfl) | (simp [*] <;> rfl), by repeat (first | exact zh0 HB | refine below_set ?_ GE246.out)⟩
     ·rw [if_neg c6] at H
      exact absurd H (by simp)
    ·rw [if_neg c5] at H
     exact absurd H (by simp)
   ·rw [if_neg c4] at H
    have c4b0 : decide (x8_1 < (l0_0.length : Int)) = false := decide_eq_false c4
    clear c4
    obtain rfl := Option.some.inj H
    have hcz9_0 := zc0 BK246 0 rfl
    have hfz9_0 := blk_frozen BK246.out 0
    go_wp2
    go_ret
    exact ⟨by first | rfl | (simp <;> rfl) | (simp [*] <;> rfl), by repeat (first | exact zh0 HB | refine below_set ?_ GE246.out)⟩

open Go.Proofs.Ytldkbeccpheckab.Cp
/-! ### impl_Memory_hasArray: function 196 -/
def impl_Memory_hasArray.f (l0_0 : List (List Int)) (a1 : Int) : Option (Bool) := (impl_within.f a1 0 (wrap64 ((l0_0.length : Int) - 1))).bind fun t250 => (some t250)
set_option maxHeartbeats 8000000 in
set_option maxRecDepth 100000 in
theorem impl_Memory_hasArray.calls (A0_0 : Option Addr) (c0_0 : Nat) (l0_0 : List (List Int)) (a1 : Int) (r : Bool) (w : World) (hr0_0 : Kd.C (Kd.slice 5 (Kd.int .u8)) w A0_0 l0_0.length l0_0) (hc0_0 : l0_0.length ≤ c0_0) (h : impl_Memory_hasArray.f l0_0 a1 = some r) :
  Calls Try.prog 196 #[.agg #[.slice A0_0 l0_0.length c0_0], .int .i64 a1] w fun e w' => e = .returned (.bool r) ∧ Below w.heap.size w w' := by
 have hu35 := Try.underlying35
 have HR0_0 := Aside0.mk hr0_0
 have HC0_0 := Aside0.mk hc0_0
 clear hr0_0 hc0_0
 have HB := Aside0.mk (Below.refl w.heap.size w)
 have H : ((impl_within.f a1 0 (wrap64 ((l0_0.length : Int) - 1))).bind fun t250 => (some t250)) = some r := h
 clear h
 replace H := Option.bind_eq_some_iff.mp H
 obtain ⟨t250, A30, H⟩ := H
 replace H : (some t250) = some r := H
 have A3 := Aside0.mk A30
 clear A30
 obtain rfl := Option.some.inj H
 go_enter Try.func196, Try.ntmps196
 go_wp2_with (first | ((with_reducible refine gate_dst (N := 2) rfl ?_); refine box_event ?hg (N := 2) ?hd (cs := #[.slice A0_0 l0_0.length c0_0]) (t := 35) ?hr ?_; (case hd => rfl); (case hg => rfl); (case hr => first | (go_simp; done) | (go_simp; rfl)); intro gb249 hg w4 hbox hb; have BK249 := Aside0.mk (hbox); have GW249 := zge HB hg; have GE249 := zge HB hg; replace HB := zhs HB hb; clear hb hbox hg; have hcz5_0 := zc0 BK249 0 rfl; have hfz5_0 := blk_frozen BK249.out 0) | ((with_reducible refine gate_callee (f := 100) rfl ?_); refine goesL_ (some 10) rfl rfl Try.func100 (by kernel_rfl) rfl #[.int .i64 a1, .int .i64 0, .int .i64 (wrap64 ((l0_0.length : Int) - 1))] rfl (by (try simp only [zq1, zq2, zq3]); first | done | rfl | (simp only [List.length_drop, List.length_take]; rfl)) ?_; (with_reducible refine (impl_within.calls a1 0 (wrap64 ((l0_0.length : Int) - 1)) t250 _ A3.out).mono ?_); rintro e w' ⟨rfl, ⟨nd, rfl⟩⟩; refine ⟨_, rfl, ?_⟩))
 go_ret
 exact ⟨by first | rfl | (simp <;> rfl) | (simp [*] <;> rfl), by repeat (first | exact zh0 HB | refine below_set ?_ GE249.out)⟩

end Go.Proofs.Ytldkbeccpheckab.PFnExactSplitRope
