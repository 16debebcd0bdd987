/- What is proved here: each Go function that is named below answers, and leaves memory, as the theorem of its name says; no condition beyond those that each theorem states. Laid by this session's own program (wip/driver.py) over the kit's print. -/
import Derived.Test.YtldkbeccpheckabPFnExactDeleteTextx0
import Derived.Test.YtldkbeccpheckabPFnExactDeleteTextx2
namespace Go.Proofs.Ytldkbeccpheckab.PFnExactDeleteText
open Go.RowKit Go.Proofs.YtldkbeccpheckabW.PrintWords Go.Proofs.YtldkbeccpheckabW.PrintLast Go.Proofs.YtldkbeccpheckabW.PrintMore
attribute [local go_sem] max2_int min2_int max_two min_two max_three min_three max_four min_four   -- for this text's walks alone
set_option linter.unusedVariables false
set_option linter.unusedSimpArgs false

open Go.Proofs.Ytldkbeccpheckab.Cp
/-! ### spec_l7Split: function 99 -/
mutual
def spec_l7Split.l0 : Nat → Int → Int → Int → List (S61) → List (S61) → List (S61) → Option ((List (S61)) × (List (S61)))
 | 0, _, _, _, _, _, _ => none
 | k + 1, x1, x8, x9, x193000, x202000, x203000 => if x9 < (x193000.length : Int) then (if 0 ≤ x9 then (if (wrap64 (x8 + ((rd_T61 x193000 x9).f2))) ≤ x1 then (if ((rd_T61 x193000 x9).f2) > 0 then (spec_l7Split.j1 k x1 x8 x9 true x193000 x202000 x203000 ((rd_T61 x193000 x9).f0) ((rd_T61 x193000 x9).f1) ((rd_T61 x193000 x9).f2) ((rd_T61 x193000 x9).f3)) else (if x8 < x1 then (spec_l7Split.j1 k x1 x8 x9 true x193000 x202000 x203000 ((rd_T61 x193000 x9).f0) ((rd_T61 x193000 x9).f1) ((rd_T61 x193000 x9).f2) ((rd_T61 x193000 x9).f3)) else ((spec_l7Length.f k x193000).bind fun t205 => (spec_l7Split.j1 k x1 x8 x9 (x1 == t205) x193000 x202000 x203000 ((rd_T61 x193000 x9).f0) ((rd_T61 x193000 x9).f1) ((rd_T61 x193000 x9).f2) ((rd_T61 x193000 x9).f3))))) else (spec_l7Split.j1 k x1 x8 x9 false x193000 x202000 x203000 ((rd_T61 x193000 x9).f0) ((rd_T61 x193000 x9).f1) ((rd_T61 x193000 x9).f2) ((rd_T61 x193000 x9).f3))) else (none)) else (some (x202000, x203000))
def spec_l7Split.j1 : Nat → Int → Int → Int → Bool → List (S61) → List (S61) → List (S61) → Int → Int → Int → Int → Option ((List (S61)) × (List (S61)))
 | 0, _, _, _, _, _, _, _, _, _, _, _ => none
 | k + 1, x1, x8, x9, x54, x193000, x202000, x203000, x205000, x205001, x205002, x205003 => if x54 = true then (if x202000.length < 4398046511104 then (spec_l7Split.l0 k x1 (wrap64 (x8 + x205002)) (wrap64 (x9 + 1)) x193000 (x202000 ++ [(⟨x205000, x205001, x205002, x205003⟩ : S61)]) x203000) else (none)) else (if x8 ≥ x1 then (if x203000.length < 4398046511104 then (spec_l7Split.l0 k x1 (wrap64 (x8 + x205002)) (wrap64 (x9 + 1)) x193000 x202000 (x203000 ++ [(⟨x205000, x205001, x205002, x205003⟩ : S61)])) else (none)) else ((spec_l2Slice.f x205000 x205001 x205002 x205003 0 (wrap64 (x1 - x8)) (wrap64 (x1 - x8))).bind fun bt212 => (if x202000.length < 4398046511104 then ((spec_l2Slice.f x205000 x205001 x205002 x205003 (wrap64 (x1 - x8)) x205002 x205003).bind fun bt219 => (if x203000.length < 4398046511104 then (spec_l7Split.l0 k x1 (wrap64 (x8 + x205002)) (wrap64 (x9 + 1)) x193000 (x202000 ++ [(⟨bt212.1, bt212.2.1, bt212.2.2.1, bt212.2.2.2⟩ : S61)]) (x203000 ++ [(⟨bt219.1, bt219.2.1, bt219.2.2.1, bt219.2.2.2⟩ : S61)])) else (none))) else (none))))
end
def spec_l7Split.f (k : Nat) (l0_0 : List (S61)) (a1 : Int) : Option ((List (S61)) × (List (S61))) := spec_l7Split.l0 k a1 0 0 l0_0 (([] : List (S61))) (([] : List (S61)))
theorem spec_l7Split.mono_l : ∀ k, (∀ y0 y1 y2 y3 y4 y5, LeO (spec_l7Split.l0 k y0 y1 y2 y3 y4 y5) (spec_l7Split.l0 (k + 1) y0 y1 y2 y3 y4 y5)) ∧ (∀ y0 y1 y2 y3 y4 y5 y6 y7 y8 y9 y10, LeO (spec_l7Split.j1 k y0 y1 y2 y3 y4 y5 y6 y7 y8 y9 y10) (spec_l7Split.j1 (k + 1) y0 y1 y2 y3 y4 y5 y6 y7 y8 y9 y10))
 | 0 => ⟨fun _ _ _ _ _ _ r h => by simp [spec_l7Split.l0] at h, fun _ _ _ _ _ _ _ _ _ _ _ r h => by simp [spec_l7Split.j1] at h⟩
 | k + 1 => by
  obtain ⟨ih0, ih1⟩ := spec_l7Split.mono_l k
  refine ⟨?_, ?_⟩
  ·intro y0 y1 y2 y3 y4 y5
   unfold spec_l7Split.l0
   repeat' first
   | (with_reducible exact ih0 _ _ _ _ _ _)
   | (with_reducible exact ih1 _ _ _ _ _ _ _ _ _ _ _)
   | (with_reducible exact spec_l7Length.mono _ _)
   | (with_reducible exact LeO.refl _)
   | (with_reducible exact LeO.none _)
   | (with_reducible refine LeO.ite ?_ ?_)
   | (with_reducible refine LeO.bind ?_ (fun _ => ?_))
   | exact ih0 _ _ _ _ _ _
   | exact ih1 _ _ _ _ _ _ _ _ _ _ _
   | exact spec_l7Length.mono _ _
   | exact LeO.none _
   | refine LeO.ite ?_ ?_
   | refine LeO.bind ?_ (fun _ => ?_)
  ·intro y0 y1 y2 y3 y4 y5 y6 y7 y8 y9 y10
   unfold spec_l7Split.j1
   repeat' first
   | (with_reducible exact ih0 _ _ _ _ _ _)
   | (with_reducible exact ih1 _ _ _ _ _ _ _ _ _ _ _)
   | (with_reducible exact spec_l7Length.mono _ _)
   | (with_reducible exact LeO.refl _)
   | (with_reducible exact LeO.none _)
   | (with_reducible refine LeO.ite ?_ ?_)
   | (with_reducible refine LeO.bind ?_ (fun _ => ?_))
   | exact ih0 _ _ _ _ _ _
   | exact ih1 _ _ _ _ _ _ _ _ _ _ _
   | exact spec_l7Length.mono _ _
   | exact LeO.none _
   | refine LeO.ite ?_ ?_
   | refine LeO.bind ?_ (fun _ => ?_)
theorem spec_l7Split.mono : ∀ a0 a1 k, LeO (spec_l7Split.f k a0 a1) (spec_l7Split.f (k + 1) a0 a1) := by
 intro a0 a1 k
 obtain ⟨ih0, ih1⟩ := spec_l7Split.mono_l k
 unfold spec_l7Split.f
 repeat' first
   | (with_reducible exact ih0 _ _ _ _ _ _)
   | (with_reducible exact ih1 _ _ _ _ _ _ _ _ _ _ _)
   | (with_reducible exact spec_l7Length.mono _ _)
   | (with_reducible exact LeO.refl _)
   | (with_reducible exact LeO.none _)
   | (with_reducible refine LeO.ite ?_ ?_)
   | (with_reducible refine LeO.bind ?_ (fun _ => ?_))
   | exact ih0 _ _ _ _ _ _
   | exact ih1 _ _ _ _ _ _ _ _ _ _ _
   | exact spec_l7Length.mono _ _
   | exact LeO.none _
   | refine LeO.ite ?_ ?_
   | refine LeO.bind ?_ (fun _ => ?_)
def spec_l7Split.T7 : Bool × List (List Nat × List Nat) := (true, [([], []), ([0], [0]), ([], []), ([], []), ([], []), ([3, 4], [3, 4]), ([], []), ([], []), ([6, 7], [6, 7]), ([2, 5, 8], [2, 5, 8]), ([9], [9]), ([1, 10, 9], [1, 10]), ([0, 1, 2, 3, 4, 5, 6, 7, 8, 9, 10, 11], []), ([12, 11, 11, 0, 1, 2, 3, 4, 5, 6, 7, 8, 9, 10, 11], [11, 12])])
def spec_l7Split.B7 : List Nat := [0, 1, 0, 0, 0, 24, 0, 0, 192, 508, 1020, 2047, 4095, 8191]
theorem spec_l7Split.tab7 : rtab .any (opsOf Try.f99 7) = spec_l7Split.T7 := by kernel_rfl
theorem spec_l7Split.bits7 : waitsOk spec_l7Split.T7.2 spec_l7Split.B7 = true := by kernel_rfl
def spec_l7Split.T8 : Bool × List (List Nat × List Nat) := (true, [([], []), ([0], [0]), ([], []), ([], []), ([], []), ([3, 4], [3, 4]), ([], []), ([6], [6]), ([], []), ([8], [8]), ([2, 5, 7, 9], [2, 5, 7, 9]), ([10], [10]), ([1, 11, 10], [1, 11]), ([0, 1, 2, 3, 4, 5, 6, 7, 8, 9, 10, 11, 12], []), ([13, 12, 12, 0, 1, 2, 3, 4, 5, 6, 7, 8, 9, 10, 11, 12], [12, 13])])
def spec_l7Split.B8 : List Nat := [0, 1, 0, 0, 0, 24, 0, 64, 0, 256, 1020, 2044, 4095, 8191, 16383]
theorem spec_l7Split.tab8 : rtab .any (opsOf Try.f99 8) = spec_l7Split.T8 := by kernel_rfl
theorem spec_l7Split.bits8 : waitsOk spec_l7Split.T8.2 spec_l7Split.B8 = true := by kernel_rfl
set_option maxHeartbeats 8000000 in
set_option maxRecDepth 100000 in
theorem spec_l7Split.calls (k : Nat) (A0_0 : Option Addr) (c0_0 : Nat) (l0_0 : List (S61)) (a1 : Int) (r1 : List (S61)) (r2 : List (S61)) (w : World) (hr0_0 : Kd.C k61 w A0_0 l0_0.length l0_0) (hc0_0 : l0_0.length ≤ c0_0) (h : spec_l7Split.f k l0_0 a1 = some (r1, r2)) :
  Calls Try.prog 99 #[.agg #[.slice A0_0 l0_0.length c0_0], .int .i64 a1] w fun e w' => ∃ v0_ v1_ : Value, e = .returned (.tuple #[.agg #[v0_], .agg #[v1_]]) ∧ Kd.R k61 61 w' w.heap.size (fun k_ => some k_ ≠ (v1_ : Value).ownBlock) v0_ r1 ∧ Kd.R k61 61 w' w.heap.size (fun k_ => some k_ ≠ (v0_ : Value).ownBlock) v1_ r2 ∧ Below w.heap.size w w' := by
 have hu32 := Try.underlying32
 have hu61 := Try.underlying61
 have HR0_0 := Aside0.mk hr0_0
 have HC0_0 := Aside0.mk hc0_0
 clear hr0_0 hc0_0
 have HB := Aside0.mk (Below.refl w.heap.size w)
 have H : (spec_l7Split.l0 k a1 0 0 l0_0 (([] : List (S61))) (([] : List (S61)))) = some (r1, r2) := h
 clear h
 obtain ⟨y195, hy195⟩ : ∃ y_ : List (S61), y_ = (([] : List (S61))) := ⟨_, rfl⟩
 replace H : (spec_l7Split.l0 k a1 0 0 l0_0 y195 (([] : List (S61)))) = some (r1, r2) := by first | (rw [hy195]; with_reducible exact H) | (have H2_ := (Option.bind_some _ _).symm.trans H; rw [hy195]; with_reducible exact H2_) | (have H2_ := (Option.bind_some _ _).symm.trans H; with_reducible exact H2_) | with_reducible exact H | (rw [hy195]; exact H) | exact H
 have Ny195 := Aside0.mk hy195
 clear hy195
 obtain ⟨y198, hy198⟩ : ∃ y_ : List (S61), y_ = (([] : List (S61))) := ⟨_, rfl⟩
 replace H : (spec_l7Split.l0 k a1 0 0 l0_0 y195 y198) = some (r1, r2) := by first | (rw [hy198]; with_reducible exact H) | (have H2_ := (Option.bind_some _ _).symm.trans H; rw [hy198]; with_reducible exact H2_) | (have H2_ := (Option.bind_some _ _).symm.trans H; with_reducible exact H2_) | with_reducible exact H | (rw [hy198]; exact H) | exact H
 have Ny198 := Aside0.mk hy198
 clear hy198
 have H' := Aside0.mk H
 clear H
 go_enter Try.func99, Try.ntmps99
 go_wp2_with (first | ((with_reducible refine gate_dst (N := 2) rfl ?_); refine box_event ?hg (N := 2) ?hd (cs := #[.slice A0_0 l0_0.length c0_0]) (t := 32) ?hr ?_; (case hd => rfl); (case hg => rfl); (case hr => first | (go_simp; done) | (go_simp; rfl)); intro gb192 hg w3 hbox hb; have BK192 := Aside0.mk (hbox); have GW192 := zge HB hg; have GE192 := zge HB hg; replace HB := zhs HB hb; clear hb hbox hg) | ((with_reducible refine gate_dst (N := 4) rfl ?_); refine box_event ?hg (N := 4) ?hd (cs := #[.slice none 0 0]) (t := 32) ?hr ?_; (case hd => rfl); (case hg => rfl); (case hr => first | (go_simp; done) | (go_simp; rfl)); intro gb193 hg w4 hbox hb; have BK193 := Aside0.mk (hbox); have GW193 := zge HB hg; have GE193 := zge HB hg; have NB192_193 := znl BK192 hg; have NB193_192 := znr BK192 hg; replace BK192 := zb0 BK192 hb; replace HB := zhs HB hb; clear hb hbox hg) | ((with_reducible refine gate_dst (N := 5) rfl ?_); refine box_event ?hg (N := 5) ?hd (cs := #[.slice none 0 0]) (t := 32) ?hr ?_; (case hd => rfl); (case hg => rfl); (case hr => first | (go_simp; done) | (go_simp; rfl)); intro gb194 hg w5 hbox hb; have BK194 := Aside0.mk (hbox); have GW194 := zge HB hg; have GE194 := zge HB hg; have NB192_194 := znl BK192 hg; have NB194_192 := znr BK192 hg; have NB193_194 := znl BK193 hg; have NB194_193 := znr BK193 hg; replace BK192 := zb0 BK192 hb; replace BK193 := zb0 BK193 hb; replace HB := zhs HB hb; clear hb hbox hg) | ((with_reducible refine gate_dst (N := 11) rfl ?_); refine Kd.R_lit k61 _ 61 ?hg (N := 11) ?hd (xs := ([] : List (S61))) (inner := []) (ok := fun _ => True) (okp := fun _ => True) ?hr ?hp (fun _ hk => hk) trivial (Below.refl _ _) (Nat.le_refl _) (by simp) ?_; (case hd => rfl); (case hg => rfl); (case hr => first | (go_simp; done) | (go_simp; rfl)); (case hp => exact (Reps.none _ _)); intro v196 w6 ho7 hb hg_ hnew_; clear hg_ hnew_; (first | rw [← Ny195.out] at ho7 | (simp only [Int.reduceToNat] at ho7; rw [← Ny195.out] at ho7)); have HO197 := Aside0.mk (Kd.R_lower ho7 (below_size (zh0 HB))); replace BK192 := zb0 BK192 hb; replace BK193 := zb0 BK193 hb; replace BK194 := zb0 BK194 hb; replace HB := zhs HB hb; clear hb ho7; obtain ⟨Ao8, co8, eo8⟩ := Kd.R_slice HO197.out; subst eo8) | ((with_reducible refine gate_dst (N := 13) rfl ?_); refine Kd.R_lit k61 _ 61 ?hg (N := 13) ?hd (xs := ([] : List (S61))) (inner := []) (ok := fun _ => True) (okp := fun _ => True) ?hr ?hp (fun _ hk => hk) trivial (Below.refl _ _) (Nat.le_refl _) (by simp) ?_; (case hd => rfl); (case hg => rfl); (case hr => first | (go_simp; done) | (go_simp; rfl)); (case hp => exact (Reps.none _ _)); intro v199 w9 ho10 hb hg_ hnew_; clear hg_ hnew_; (first | rw [← Ny198.out] at ho10 | (simp only [Int.reduceToNat] at ho10; rw [← Ny198.out] at ho10)); have HO200 := Aside0.mk (Kd.R_lower (Kd.R_new' ho10 (Kd.R_lt (zr0 HO197))) (below_size (zh0 HB))); replace HO197 := Aside0.mk (Kd.R_elder' (zr0 HO197) (Kd.R_base ho10) hb); replace BK192 := zb0 BK192 hb; replace BK193 := zb0 BK193 hb; replace BK194 := zb0 BK194 hb; replace HB := zhs HB hb; clear hb ho10; obtain ⟨Ao11, co11, eo11⟩ := Kd.R_slice HO200.out; subst eo11) | ((with_reducible refine gate_dst (N := 6) rfl ?_); refine box_event ?hg (N := 6) ?hd (cs := #[.slice none 0 0]) (t := 32) ?hr ?_; (case hd => rfl); (case hg => rfl); (case hr => first | (go_simp; done) | (go_simp; rfl)); intro gb201 hg w12 hbox hb; have BK201 := Aside0.mk (hbox); have GW201 := zge HB hg; have GE201 := zge HB hg; have NB192_201 := znl BK192 hg; have NB201_192 := znr BK192 hg; have NB193_201 := znl BK193 hg; have NB201_193 := znr BK193 hg; have NB194_201 := znl BK194 hg; have NB201_194 := znr BK194 hg; replace HO197 := zrb HO197 hb; replace HO200 := zrb HO200 hb; replace BK192 := zb0 BK192 hb; replace BK193 := zb0 BK193 hb; replace BK194 := zb0 BK194 hb; replace HB := zhs HB hb; clear hb hbox hg) | ((with_reducible refine gate_dst (N := 7) rfl ?_); refine box_event ?hg (N := 7) ?hd (cs := #[.slice none 0 0]) (t := 32) ?hr ?_; (case hd => rfl); (case hg => rfl); (case hr => first | (go_simp; done) | (go_simp; rfl)); intro gb202 hg w13 hbox hb; have BK202 := Aside0.mk (hbox); have GW202 := Aside0.mk ((by rw [hg]; exact (below_size (by repeat (first | exact zh0 HB | refine below_set ?_ GE192.out | refine below_set ?_ GE193.out | refine below_set ?_ GE194.out | refine below_set ?_ GE201.out))) : w.heap.size ≤ gb202)); have GE202 := Aside0.mk ((by rw [hg]; exact (below_size (by repeat (first | exact zh0 HB | refine below_set ?_ GE192.out | refine below_set ?_ GE193.out | refine below_set ?_ GE194.out | refine below_set ?_ GE201.out))) : w.heap.size ≤ gb202)); have NB192_202 := znl BK192 hg; have NB202_192 := znr BK192 hg; have NB193_202 := znl BK193 hg; have NB202_193 := znr BK193 hg; have NB194_202 := znl BK194 hg; have NB202_194 := znr BK194 hg; have NB201_202 := znl BK201 hg; have NB202_201 := znr BK201 hg; replace HO197 := zrb HO197 hb; replace HO200 := zrb HO200 hb; replace BK192 := zb0 BK192 hb; replace BK193 := zb0 BK193 hb; replace BK194 := zb0 BK194 hb; replace BK201 := zb0 BK201 hb; replace HB := Aside0.mk (below_step (by repeat (first | exact zh0 HB | refine below_set ?_ GE192.out | refine below_set ?_ GE193.out | refine below_set ?_ GE194.out | refine below_set ?_ GE201.out)) hb); clear hb hbox hg; have hnb14 := NB201_192.out; have hnc14 := NB192_201.out; have hnb15 := NB201_193.out; have hnc15 := NB193_201.out; have hnb16 := NB201_194.out; have hnc16 := NB194_201.out; have hnb17 := NB201_202.out; have hnc17 := NB202_201.out; have hcz18_0 := zc0 BK201 0 rfl; have hfz18_0 := blk_frozen BK201.out 0; have hnb19 := NB202_192.out; have hnc19 := NB192_202.out; have hnb20 := NB202_193.out; have hnc20 := NB193_202.out; have hnb21 := NB202_194.out; have hnc21 := NB194_202.out; have hcz22_0 := zc0 BK202 0 rfl; have hfz22_0 := blk_frozen BK202.out 0))
 go_loopg [8, 9] k (fun kq v8 v9 w' => ∃ (x8_1 : Int) (x9_1 : Int) (x202000_1 : List (S61)) (x203000_1 : List (S61)) (u202000 : Value) (u203000 : Value), v8 = .int .i64 x8_1 ∧ v9 = .int .i64 x9_1 ∧ Aside0 (spec_l7Split.l0 kq a1 x8_1 x9_1 l0_0 x202000_1 x203000_1 = some (r1, r2)) ∧ Aside0 (kq ≤ k) ∧ Aside0 (Kd.R k61 61 w' w.heap.size (fun k_ => some k_ ≠ (u203000 : Value).ownBlock) u202000 x202000_1) ∧ Aside0 (Kd.R k61 61 w' w.heap.size (fun k_ => some k_ ≠ (u202000 : Value).ownBlock) u203000 x203000_1) ∧ Aside0 (w'.heap[gb192]? = some (.cells #[(.slice A0_0 l0_0.length c0_0)] 32 (0, 0))) ∧ Aside0 (w'.heap[gb193]? = some (.cells #[(.slice none 0 0)] 32 (0, 0))) ∧ Aside0 (w'.heap[gb194]? = some (.cells #[(.slice none 0 0)] 32 (0, 0))) ∧ Aside0 (w'.heap[gb201]? = some (.cells #[u202000] 32 (0, 0))) ∧ Aside0 (w'.heap[gb202]? = some (.cells #[u203000] 32 (0, 0))) ∧ Aside0 (Below w.heap.size w w'))
 case atStart => exact ⟨(0), (0), (y195), (y198), (.slice Ao8 y195.length co8), (.slice Ao11 y198.length co11), (by first | rfl | (simp; done) | (simp [*]; done)), (by first | rfl | (simp; done) | (simp [*]; done)), H', ⟨Nat.le_refl _⟩, ⟨by (with_reducible repeat (first | apply Kd.R_alloc | apply Kd.R_drewN | apply Kd.R_drew)); exact Kd.R_mono (Kd.R_far (p := ⟨gb202, 0, none⟩) (Kd.R_far (p := ⟨gb201, 0, none⟩) (Kd.R_types (Kd.R_types HO197.out BK201.out (by decide)) BK202.out (by decide)) (fun _ hk => hk.1.2) (.slice Ao8 y195.length co8)) (fun _ hk => hk.2) (.slice Ao11 y198.length co11)) (fun _ hk => hk.1.1.2)⟩, ⟨by (with_reducible repeat (first | apply Kd.R_alloc | apply Kd.R_drewN | apply Kd.R_drew)); exact Kd.R_mono (Kd.R_far (p := ⟨gb202, 0, none⟩) (Kd.R_far (p := ⟨gb201, 0, none⟩) (Kd.R_types (Kd.R_types HO200.out BK201.out (by decide)) BK202.out (by decide)) (fun _ hk => hk.1.2) (.slice Ao8 y195.length co8)) (fun _ hk => hk.2) (.slice Ao11 y198.length co11)) (fun _ hk => hk.1.1.2)⟩, ⟨by (with_reducible repeat (first | refine blk_drewN ?_ _ | refine blk_drew ?_ | refine blk_alloc ?_ _)); refine blk_far ?_ NB192_202.out _; refine blk_far ?_ NB192_201.out _; (with_reducible repeat (first | refine blk_drewN ?_ _ | refine blk_drew ?_ | refine blk_alloc ?_ _)); exact BK192.out⟩, ⟨by (with_reducible repeat (first | refine blk_drewN ?_ _ | refine blk_drew ?_ | refine blk_alloc ?_ _)); refine blk_far ?_ NB193_202.out _; refine blk_far ?_ NB193_201.out _; (with_reducible repeat (first | refine blk_drewN ?_ _ | refine blk_drew ?_ | refine blk_alloc ?_ _)); exact BK193.out⟩, ⟨by (with_reducible repeat (first | refine blk_drewN ?_ _ | refine blk_drew ?_ | refine blk_alloc ?_ _)); refine blk_far ?_ NB194_202.out _; refine blk_far ?_ NB194_201.out _; (with_reducible repeat (first | refine blk_drewN ?_ _ | refine blk_drew ?_ | refine blk_alloc ?_ _)); exact BK194.out⟩, ⟨by (with_reducible repeat (first | refine blk_drewN ?_ _ | refine blk_drew ?_ | refine blk_alloc ?_ _)); refine blk_far ?_ NB201_202.out _; refine blk_put (cs := #[.slice none 0 0]) ?_ 0 _ rfl; (with_reducible repeat (first | refine blk_drewN ?_ _ | refine blk_drew ?_ | refine blk_alloc ?_ _)); exact BK201.out⟩, ⟨by (with_reducible repeat (first | refine blk_drewN ?_ _ | refine blk_drew ?_ | refine blk_alloc ?_ _)); refine blk_put (cs := #[.slice none 0 0]) ?_ 0 _ rfl; refine blk_far ?_ NB202_201.out _; (with_reducible repeat (first | refine blk_drewN ?_ _ | refine blk_drew ?_ | refine blk_alloc ?_ _)); exact BK202.out⟩, ⟨by repeat (first | exact zh0 HB | refine below_set ?_ GE192.out | refine below_set ?_ GE193.out | refine below_set ?_ GE194.out | refine below_set ?_ GE201.out | refine below_set ?_ GE202.out)⟩⟩
 case round =>
  clear H'
  try clear c1
  try clear c2
  try clear p2
  try clear c9
  try clear c14
  try clear c15
  try clear c16
  try clear c17
  try clear c19
  try clear c20
  try clear c21
  try clear hcz18_0
  try clear hcz22_0
  try clear hfz18_0
  try clear hfz22_0
  obtain ⟨x8_1, x9_1, x202000_1, x203000_1, u202000, u203000, rfl, rfl, HA, HK1, HO_202000, HO_203000, BK192, BK193, BK194, BK201, BK202, HB⟩ := hrel
  cases gk with
  | zero => exact absurd HA.out (by simp [spec_l7Split.l0])
  | succ k1 =>
   have H := HA.out
   clear HA
   simp only [spec_l7Split.l0] at H
   by_cases c23 : x9_1 < (l0_0.length : Int)
   ·rw [if_pos c23] at H
    have c23b0 : decide (x9_1 < (l0_0.length : Int)) = true := decide_eq_true c23
    clear c23
    by_cases c24 : 0 ≤ x9_1
    ·rw [if_pos c24] at H
     have c24b0 : decide (0 ≤ x9_1) = true := decide_eq_true c24
     clear c24
     have HC25 := Aside0.mk H
     clear H
     have hnb26 := NB192_193.out
     have hnc26 := NB193_192.out
     have hnb27 := NB192_194.out
     have hnc27 := NB194_192.out
     have hnb28 := NB192_201.out
     have hnc28 := NB201_192.out
     have hnb29 := NB192_202.out
     have hnc29 := NB202_192.out
     have hcz30_0 := zc0 BK192 0 rfl
     have hfz30_0 := blk_frozen BK192.out 0
     have p203 : 0 ≤ (x9_1 : Int) := of_decide_eq_true (by first | (with_reducible assumption) | assumption)
     have q203 : x9_1 < (l0_0.length : Int) := of_decide_eq_true (by first | (with_reducible assumption) | assumption)
     obtain ⟨ad203, e203, hx203_0, hx203_1, hx203_2, hx203_3⟩ := at_T61 HR0_0.out x9_1 p203 q203
     cases e203
     replace hx203_0 := (HB.out.cell (World.block_lt_of_cell? w _ hx203_0)).trans hx203_0
     replace hx203_1 := (HB.out.cell (World.block_lt_of_cell? w _ hx203_1)).trans hx203_1
     replace hx203_2 := (HB.out.cell (World.block_lt_of_cell? w _ hx203_2)).trans hx203_2
     replace hx203_3 := (HB.out.cell (World.block_lt_of_cell? w _ hx203_3)).trans hx203_3
     replace p203 := eq_true p203
     replace q203 := eq_true q203
     go_upto_region 9 with (first | ((with_reducible refine gate_dst (N := 10) rfl ?_); refine box_event ?hg (N := 10) ?hd (cs := #[.int .i64 0, .int .i64 0, .int .i64 0, .int .i64 0]) (t := 61) ?hr ?_; (case hd => rfl); (case hg => rfl); (case hr => first | (go_simp; done) | (go_simp; rfl)); intro gb204 hg w31 hbox hb; have BK204 := Aside0.mk (hbox); have GW204 := Aside0.mk ((by rw [hg]; exact (below_size (by repeat (first | exact zh0 HB | refine below_set ?_ GE192.out | refine below_set ?_ GE193.out | refine below_set ?_ GE194.out | refine below_set ?_ GE201.out | refine below_set ?_ GE202.out))) : w.heap.size ≤ gb204)); have GE204 := Aside0.mk ((by rw [hg]; exact (below_size (by repeat (first | exact zh0 HB | refine below_set ?_ GE192.out | refine below_set ?_ GE193.out | refine below_set ?_ GE194.out | refine below_set ?_ GE201.out | refine below_set ?_ GE202.out))) : w.heap.size ≤ gb204)); have NB192_204 := znl BK192 hg; have NB204_192 := znr BK192 hg; have NB193_204 := znl BK193 hg; have NB204_193 := znr BK193 hg; have NB194_204 := znl BK194 hg; have NB204_194 := znr BK194 hg; have NB201_204 := znl BK201 hg; have NB204_201 := znr BK201 hg; have NB202_204 := znl BK202 hg; have NB204_202 := znr BK202 hg; replace HO_202000 := Aside0.mk (Kd.R_below (Kd.R_elderB (zr0 HO_202000) gb204 (Nat.le_of_eq hg.symm)) hb); replace HO_203000 := Aside0.mk (Kd.R_below (Kd.R_elderB (zr0 HO_203000) gb204 (Nat.le_of_eq hg.symm)) hb); replace BK192 := zb0 BK192 hb; replace BK193 := zb0 BK193 hb; replace BK194 := zb0 BK194 hb; replace BK201 := zb0 BK201 hb; replace BK202 := zb0 BK202 hb; replace HB := Aside0.mk (below_step (by repeat (first | exact zh0 HB | refine below_set ?_ GE192.out | refine below_set ?_ GE193.out | refine below_set ?_ GE194.out | refine below_set ?_ GE201.out | refine below_set ?_ GE202.out)) hb); clear hb hbox hg; have hnb32 := NB204_192.out; have hnc32 := NB192_204.out; have hnb33 := NB204_193.out; have hnc33 := NB193_204.out; have hnb34 := NB204_194.out; have hnc34 := NB194_204.out; have hnb35 := NB204_201.out; have hnc35 := NB201_204.out; have hnb36 := NB204_202.out; have hnc36 := NB202_204.out; have hcz37_0 := zc0 BK204 0 rfl; have hcz37_1 := zc0 BK204 1 rfl; have hcz37_2 := zc0 BK204 2 rfl; have hcz37_3 := zc0 BK204 3 rfl; have hfz37_0 := blk_frozen BK204.out 0; have hfz37_1 := blk_frozen BK204.out 1; have hfz37_2 := blk_frozen BK204.out 2; have hfz37_3 := blk_frozen BK204.out 3))
     (try simp only [Act.put, zp1, zp2, zp3])
     go_cut [54] (fun v54 wc => ∃ (kq : Nat) (x54_24 : Bool), v54 = .bool x54_24 ∧ Aside0 (spec_l7Split.j1 kq a1 x8_1 x9_1 x54_24 l0_0 x202000_1 x203000_1 ((rd_T61 l0_0 x9_1).f0) ((rd_T61 l0_0 x9_1).f1) ((rd_T61 l0_0 x9_1).f2) ((rd_T61 l0_0 x9_1).f3) = some (r1, r2)) ∧ Aside0 (kq ≤ k1) ∧ Aside0 (Kd.R k61 61 wc w.heap.size (fun k_ => some k_ ≠ (u203000 : Value).ownBlock ∧ k_ ≠ gb204) u202000 x202000_1) ∧ Aside0 (Kd.R k61 61 wc w.heap.size (fun k_ => some k_ ≠ (u202000 : Value).ownBlock ∧ k_ ≠ gb204) u203000 x203000_1) ∧ Aside0 (wc.heap[gb192]? = some (.cells #[(.slice (some ad203) l0_0.length c0_0)] 32 (0, 0))) ∧ Aside0 (wc.heap[gb193]? = some (.cells #[(.slice none 0 0)] 32 (0, 0))) ∧ Aside0 (wc.heap[gb194]? = some (.cells #[(.slice none 0 0)] 32 (0, 0))) ∧ Aside0 (wc.heap[gb201]? = some (.cells #[u202000] 32 (0, 0))) ∧ Aside0 (wc.heap[gb202]? = some (.cells #[u203000] 32 (0, 0))) ∧ Aside0 (wc.heap[gb204]? = some (.cells #[.int .i64 ((rd_T61 l0_0 x9_1).f0), .int .i64 ((rd_T61 l0_0 x9_1).f1), .int .i64 ((rd_T61 l0_0 x9_1).f2), .int .i64 ((rd_T61 l0_0 x9_1).f3)] 61 (0, 0))) ∧ Aside0 (Below w.heap.size w wc))
     case first =>
      have H := HC25.out
      clear HC25
      by_cases c38 : (wrap64 (x8_1 + ((rd_T61 l0_0 x9_1).f2))) ≤ a1
      ·rw [if_pos c38] at H
       have c38b0 : decide ((wrap64 (x8_1 + ((rd_T61 l0_0 x9_1).f2))) ≤ a1) = true := decide_eq_true c38
       clear c38
       (first | rw [c38b0] | (simp only [i64_w, i32_w]; rw [c38b0]) | skip)
       by_cases c39 : ((rd_T61 l0_0 x9_1).f2) > 0
       ·rw [if_pos c39] at H
        have c39b0 : decide (0 < ((rd_T61 l0_0 x9_1).f2)) = true := decide_eq_true c39
        clear c39
        have H' := Aside0.mk H
        clear H
        have hnb40 := NB204_192.out
        have hnc40 := NB192_204.out
        have hnb41 := NB204_193.out
        have hnc41 := NB193_204.out
        have hnb42 := NB204_194.out
        have hnc42 := NB194_204.out
        have hnb43 := NB204_201.out
        have hnc43 := NB201_204.out
        have hnb44 := NB204_202.out
        have hnc44 := NB202_204.out
        have hcz45_0 := zc0 BK204 0 rfl
        have hcz45_1 := zc0 BK204 1 rfl
        have hcz45_2 := zc0 BK204 2 rfl
        have hcz45_3 := zc0 BK204 3 rfl
        have hfz45_0 := blk_frozen BK204.out 0
        have hfz45_1 := blk_frozen BK204.out 1
        have hfz45_2 := blk_frozen BK204.out 2
        have hfz45_3 := blk_frozen BK204.out 3
        go_wp2
        go_meet
        case rel => exact ⟨_, (true), (by first | rfl | (simp; done) | (simp [*]; done)), H', ⟨by have := HK1.out; first | omega | exact Nat.le_refl _⟩, ⟨by (with_reducible repeat (first | apply Kd.R_alloc | apply Kd.R_drewN | apply Kd.R_drew)); exact Kd.R_mono (Kd.R_far (p := ⟨gb204, 3, none⟩) (Kd.R_far (p := ⟨gb204, 2, none⟩) (Kd.R_far (p := ⟨gb204, 1, none⟩) (Kd.R_far (p := ⟨gb204, 0, none⟩) (Kd.R_mono HO_202000.out (fun k_ hk => (⟨hk, hk.2⟩ : _ ∧ k_ ≠ gb204))) (fun _ hk => hk.2) (.int .i64 ((rd_T61 l0_0 x9_1).f0))) (fun _ hk => hk.2) (.int .i64 ((rd_T61 l0_0 x9_1).f1))) (fun _ hk => hk.2) (.int .i64 ((rd_T61 l0_0 x9_1).f2))) (fun _ hk => hk.2) (.int .i64 ((rd_T61 l0_0 x9_1).f3))) (fun _ hk => ⟨hk.1.1, hk.1.2⟩)⟩, ⟨by (with_reducible repeat (first | apply Kd.R_alloc | apply Kd.R_drewN | apply Kd.R_drew)); exact Kd.R_mono (Kd.R_far (p := ⟨gb204, 3, none⟩) (Kd.R_far (p := ⟨gb204, 2, none⟩) (Kd.R_far (p := ⟨gb204, 1, none⟩) (Kd.R_far (p := ⟨gb204, 0, none⟩) (Kd.R_mono HO_203000.out (fun k_ hk => (⟨hk, hk.2⟩ : _ ∧ k_ ≠ gb204))) (fun _ hk => hk.2) (.int .i64 ((rd_T61 l0_0 x9_1).f0))) (fun _ hk => hk.2) (.int .i64 ((rd_T61 l0_0 x9_1).f1))) (fun _ hk => hk.2) (.int .i64 ((rd_T61 l0_0 x9_1).f2))) (fun _ hk => hk.2) (.int .i64 ((rd_T61 l0_0 x9_1).f3))) (fun _ hk => ⟨hk.1.1, hk.1.2⟩)⟩, ⟨by (with_reducible repeat (first | refine blk_drewN ?_ _ | refine blk_drew ?_ | refine blk_alloc ?_ _)); refine blk_far ?_ NB192_204.out _; refine blk_far ?_ NB192_204.out _; refine blk_far ?_ NB192_204.out _; refine blk_far ?_ NB192_204.out _; (with_reducible repeat (first | refine blk_drewN ?_ _ | refine blk_drew ?_ | refine blk_alloc ?_ _)); exact BK192.out⟩, ⟨by (with_reducible repeat (first | refine blk_drewN ?_ _ | refine blk_drew ?_ | refine blk_alloc ?_ _)); refine blk_far ?_ NB193_204.out _; refine blk_far ?_ NB193_204.out _; refine blk_far ?_ NB193_204.out _; refine blk_far ?_ NB193_204.out _; (with_reducible repeat (first | refine blk_drewN ?_ _ | refine blk_drew ?_ | refine blk_alloc ?_ _)); exact BK193.out⟩, ⟨by (with_reducible repeat (first | refine blk_drewN ?_ _ | refine blk_drew ?_ | refine blk_alloc ?_ _)); refine blk_far ?_ NB194_204.out _; refine blk_far ?_ NB194_204.out _; refine blk_far ?_ NB194_204.out _; refine blk_far ?_ NB194_204.out _; (with_reducible repeat (first | refine blk_drewN ?_ _ | refine blk_drew ?_ | refine blk_alloc ?_ _)); exact BK194.out⟩, ⟨by (with_reducible repeat (first | refine blk_drewN ?_ _ | refine blk_drew ?_ | refine blk_alloc ?_ _)); refine blk_far ?_ NB201_204.out _; refine blk_far ?_ NB201_204.out _; refine blk_far ?_ NB201_204.out _; refine blk_far ?_ NB201_204.out _; (with_reducible repeat (first | refine blk_drewN ?_ _ | refine blk_drew ?_ | refine blk_alloc ?_ _)); exact BK201.out⟩, ⟨by (with_reducible repeat (first | refine blk_drewN ?_ _ | refine blk_drew ?_ | refine blk_alloc ?_ _)); refine blk_far ?_ NB202_204.out _; refine blk_far ?_ NB202_204.out _; refine blk_far ?_ NB202_204.out _; refine blk_far ?_ NB202_204.out _; (with_reducible repeat (first | refine blk_drewN ?_ _ | refine blk_drew ?_ | refine blk_alloc ?_ _)); exact BK202.out⟩, ⟨by (with_reducible repeat (first | refine blk_drewN ?_ _ | refine blk_drew ?_ | refine blk_alloc ?_ _)); refine blk_put (cs := #[.int .i64 ((rd_T61 l0_0 x9_1).f0), .int .i64 ((rd_T61 l0_0 x9_1).f1), .int .i64 ((rd_T61 l0_0 x9_1).f2), .int .i64 0]) ?_ 3 _ rfl; refine blk_put (cs := #[.int .i64 ((rd_T61 l0_0 x9_1).f0), .int .i64 ((rd_T61 l0_0 x9_1).f1), .int .i64 0, .int .i64 0]) ?_ 2 _ rfl; refine blk_put (cs := #[.int .i64 ((rd_T61 l0_0 x9_1).f0), .int .i64 0, .int .i64 0, .int .i64 0]) ?_ 1 _ rfl; refine blk_put (cs := #[.int .i64 0, .int .i64 0, .int .i64 0, .int .i64 0]) ?_ 0 _ rfl; (with_reducible repeat (first | refine blk_drewN ?_ _ | refine blk_drew ?_ | refine blk_alloc ?_ _)); exact BK204.out⟩, ⟨by repeat (first | exact zh0 HB | refine below_set ?_ GE192.out | refine below_set ?_ GE193.out | refine below_set ?_ GE194.out | refine below_set ?_ GE201.out | refine below_set ?_ GE202.out | refine below_set ?_ GE204.out)⟩⟩
       ·rw [if_neg c39] at H
        have c39b0 : decide (0 < ((rd_T61 l0_0 x9_1).f2)) = false := decide_eq_false c39
        clear c39
        by_cases c46 : x8_1 < a1
        ·rw [if_pos c46] at H
         have c46b0 : decide (x8_1 < a1) = true := decide_eq_true c46
         clear c46
         have H' := Aside0.mk H
         clear H
         have hnb47 := NB204_192.out
         have hnc47 := NB192_204.out
         have hnb48 := NB204_193.out
         have hnc48 := NB193_204.out
         have hnb49 := NB204_194.out
         have hnc49 := NB194_204.out
         have hnb50 := NB204_201.out
         have hnc50 := NB201_204.out
         have hnb51 := NB204_202.out
         have hnc51 := NB202_204.out
         have hcz52_0 := zc0 BK204 0 rfl
         have hcz52_1 := zc0 BK204 1 rfl
         have hcz52_2 := zc0 BK204 2 rfl
         have hcz52_3 := zc0 BK204 3 rfl
         have hfz52_0 := blk_frozen BK204.out 0
         have hfz52_1 := blk_frozen BK204.out 1
         have hfz52_2 := blk_frozen BK204.out 2
         have hfz52_3 := blk_frozen BK204.out 3
         go_wp2
         go_meet
         case rel => exact ⟨_, (true), (by first | rfl | (simp; done) | (simp [*]; done)), H', ⟨by have := HK1.out; first | omega | exact Nat.le_refl _⟩, ⟨by (with_reducible repeat (first | apply Kd.R_alloc | apply Kd.R_drewN | apply Kd.R_drew)); exact Kd.R_mono (Kd.R_far (p := ⟨gb204, 3, none⟩) (Kd.R_far (p := ⟨gb204, 2, none⟩) (Kd.R_far (p := ⟨gb204, 1, none⟩) (Kd.R_far (p := ⟨gb204, 0, none⟩) (Kd.R_mono HO_202000.out (fun k_ hk => (⟨hk, hk.2⟩ : _ ∧ k_ ≠ gb204))) (fun _ hk => hk.2) (.int .i64 ((rd_T61 l0_0 x9_1).f0))) (fun _ hk => hk.2) (.int .i64 ((rd_T61 l0_0 x9_1).f1))) (fun _ hk => hk.2) (.int .i64 ((rd_T61 l0_0 x9_1).f2))) (fun _ hk => hk.2) (.int .i64 ((rd_T61 l0_0 x9_1).f3))) (fun _ hk => ⟨hk.1.1, hk.1.2⟩)⟩, ⟨by (with_reducible repeat (first | apply Kd.R_alloc | apply Kd.R_drewN | apply Kd.R_drew)); exact Kd.R_mono (Kd.R_far (p := ⟨gb204, 3, none⟩) (Kd.R_far (p := ⟨gb204, 2, none⟩) (Kd.R_far (p := ⟨gb204, 1, none⟩) (Kd.R_far (p := ⟨gb204, 0, none⟩) (Kd.R_mono HO_203000.out (fun k_ hk => (⟨hk, hk.2⟩ : _ ∧ k_ ≠ gb204))) (fun _ hk => hk.2) (.int .i64 ((rd_T61 l0_0 x9_1).f0))) (fun _ hk => hk.2) (.int .i64 ((rd_T61 l0_0 x9_1).f1))) (fun _ hk => hk.2) (.int .i64 ((rd_T61 l0_0 x9_1).f2))) (fun _ hk => hk.2) (.int .i64 ((rd_T61 l0_0 x9_1).f3))) (fun _ hk => ⟨hk.1.1, hk.1.2⟩)⟩, ⟨by (with_reducible repeat (first | refine blk_drewN ?_ _ | refine blk_drew ?_ | refine blk_alloc ?_ _)); refine blk_far ?_ NB192_204.out _; refine blk_far ?_ NB192_204.out _; refine blk_far ?_ NB192_204.out _; refine blk_far ?_ NB192_204.out _; (with_reducible repeat (first | refine blk_drewN ?_ _ | refine blk_drew ?_ | refine blk_alloc ?_ _)); exact BK192.out⟩, ⟨by (with_reducible repeat (first | refine blk_drewN ?_ _ | refine blk_drew ?_ | refine blk_alloc ?_ _)); refine blk_far ?_ NB193_204.out _; refine blk_far ?_ NB193_204.out _; refine blk_far ?_ NB193_204.out _; refine blk_far ?_ NB193_204.out _; (with_reducible repeat (first | refine blk_drewN ?_ _ | refine blk_drew ?_ | refine blk_alloc ?_ _)); exact BK193.out⟩, ⟨by (with_reducible repeat (first | refine blk_drewN ?_ _ | refine blk_drew ?_ | refine blk_alloc ?_ _)); refine blk_far ?_ NB194_204.out _; refine blk_far ?_ NB194_204.out _; refine blk_far ?_ NB194_204.out _; refine blk_far ?_ NB194_204.out _; (with_reducible repeat (first | refine blk_drewN ?_ _ | refine blk_drew ?_ | refine blk_alloc ?_ _)); exact BK194.out⟩, ⟨by (with_reducible repeat (first | refine blk_drewN ?_ _ | refine blk_drew ?_ | refine blk_alloc ?_ _)); refine blk_far ?_ NB201_204.out _; refine blk_far ?_ NB201_204.out _; refine blk_far ?_ NB201_204.out _; refine blk_far ?_ NB201_204.out _; (with_reducible repeat (first | refine blk_drewN ?_ _ | refine blk_drew ?_ | refine blk_alloc ?_ _)); exact BK201.out⟩, ⟨by (with_reducible repeat (first | refine blk_drewN ?_ _ | refine blk_drew ?_ | refine blk_alloc ?_ _)); refine blk_far ?_ NB202_204.out _; refine blk_far ?_ NB202_204.out _; refine blk_far ?_ NB202_204.out _; refine blk_far ?_ NB202_204.out _; (with_reducible repeat (first | refine blk_drewN ?_ _ | refine blk_drew ?_ | refine blk_alloc ?_ _)); exact BK202.out⟩, ⟨by (with_reducible repeat (first | refine blk_drewN ?_ _ | refine blk_drew ?_ | refine blk_alloc ?_ _)); refine blk_put (cs := #[.int .i64 ((rd_T61 l0_0 x9_1).f0), .int .i64 ((rd_T61 l0_0 x9_1).f1), .int .i64 ((rd_T61 l0_0 x9_1).f2), .int .i64 0]) ?_ 3 _ rfl; refine blk_put (cs := #[.int .i64 ((rd_T61 l0_0 x9_1).f0), .int .i64 ((rd_T61 l0_0 x9_1).f1), .int .i64 0, .int .i64 0]) ?_ 2 _ rfl; refine blk_put (cs := #[.int .i64 ((rd_T61 l0_0 x9_1).f0), .int .i64 0, .int .i64 0, .int .i64 0]) ?_ 1 _ rfl; refine blk_put (cs := #[.int .i64 0, .int .i64 0, .int .i64 0, .int .i64 0]) ?_ 0 _ rfl; (with_reducible repeat (first | refine blk_drewN ?_ _ | refine blk_drew ?_ | refine blk_alloc ?_ _)); exact BK204.out⟩, ⟨by repeat (first | exact zh0 HB | refine below_set ?_ GE192.out | refine below_set ?_ GE193.out | refine below_set ?_ GE194.out | refine below_set ?_ GE201.out | refine below_set ?_ GE202.out | refine below_set ?_ GE204.out)⟩⟩
        ·rw [if_neg c46] at H
         have c46b0 : decide (x8_1 < a1) = false := decide_eq_false c46
         clear c46
         replace H := Option.bind_eq_some_iff.mp H
         obtain ⟨t205, A530, H⟩ := H
         replace H : (spec_l7Split.j1 k1 a1 x8_1 x9_1 (a1 == t205) l0_0 x202000_1 x203000_1 ((rd_T61 l0_0 x9_1).f0) ((rd_T61 l0_0 x9_1).f1) ((rd_T61 l0_0 x9_1).f2) ((rd_T61 l0_0 x9_1).f3)) = some (r1, r2) := H
         have A53 := Aside0.mk A530
         clear A530
         have H' := Aside0.mk H
         clear H
         have hnb54 := NB204_192.out
         have hnc54 := NB192_204.out
         have hnb55 := NB204_193.out
         have hnc55 := NB193_204.out
         have hnb56 := NB204_194.out
         have hnc56 := NB194_204.out
         have hnb57 := NB204_201.out
         have hnc57 := NB201_204.out
         have hnb58 := NB204_202.out
         have hnc58 := NB202_204.out
         have hcz59_0 := zc0 BK204 0 rfl
         have hcz59_1 := zc0 BK204 1 rfl
         have hcz59_2 := zc0 BK204 2 rfl
         have hcz59_3 := zc0 BK204 3 rfl
         have hfz59_0 := blk_frozen BK204.out 0
         have hfz59_1 := blk_frozen BK204.out 1
         have hfz59_2 := blk_frozen BK204.out 2
         have hfz59_3 := blk_frozen BK204.out 3
         have hnb60 := NB192_193.out
         have hnc60 := NB193_192.out
         have hnb61 := NB192_194.out
         have hnc61 := NB194_192.out
         have hnb62 := NB192_201.out
         have hnc62 := NB201_192.out
         have hnb63 := NB192_202.out
         have hnc63 := NB202_192.out
         have hcz64_0 := zc0 BK192 0 rfl
         have hfz64_0 := blk_frozen BK192.out 0
         go_wp2_with (first | (go_at_call 167; (with_reducible refine (spec_l7Length.calls k1 _ _ l0_0 t205 _ ?side1 ?side2 A53.out).mono ?_); (case side1 => exact Kd.C_below HR0_0.out (by repeat (first | exact zh0 HB | refine below_set ?_ GE192.out | refine below_set ?_ GE193.out | refine below_set ?_ GE194.out | refine below_set ?_ GE201.out | refine below_set ?_ GE202.out | refine below_set ?_ GE204.out))); (case side2 => exact HC0_0.out); rintro e w65 ⟨rfl, hb⟩; replace HO_202000 := Aside0.mk (Kd.R_below (by (with_reducible repeat (first | apply Kd.R_alloc | apply Kd.R_drewN | apply Kd.R_drew)); exact (Kd.R_mono (Kd.R_far (p := ⟨gb204, 3, none⟩) (Kd.R_far (p := ⟨gb204, 2, none⟩) (Kd.R_far (p := ⟨gb204, 1, none⟩) (Kd.R_far (p := ⟨gb204, 0, none⟩) (Kd.R_mono HO_202000.out (fun k_ hk => (⟨hk, hk.2⟩ : _ ∧ k_ ≠ gb204))) (fun _ hk => hk.2) (.int .i64 ((rd_T61 l0_0 x9_1).f0))) (fun _ hk => hk.2) (.int .i64 ((rd_T61 l0_0 x9_1).f1))) (fun _ hk => hk.2) (.int .i64 ((rd_T61 l0_0 x9_1).f2))) (fun _ hk => hk.2) (.int .i64 ((rd_T61 l0_0 x9_1).f3))) (fun _ h_ => h_.1))) hb); replace HO_203000 := Aside0.mk (Kd.R_below (by (with_reducible repeat (first | apply Kd.R_alloc | apply Kd.R_drewN | apply Kd.R_drew)); exact (Kd.R_mono (Kd.R_far (p := ⟨gb204, 3, none⟩) (Kd.R_far (p := ⟨gb204, 2, none⟩) (Kd.R_far (p := ⟨gb204, 1, none⟩) (Kd.R_far (p := ⟨gb204, 0, none⟩) (Kd.R_mono HO_203000.out (fun k_ hk => (⟨hk, hk.2⟩ : _ ∧ k_ ≠ gb204))) (fun _ hk => hk.2) (.int .i64 ((rd_T61 l0_0 x9_1).f0))) (fun _ hk => hk.2) (.int .i64 ((rd_T61 l0_0 x9_1).f1))) (fun _ hk => hk.2) (.int .i64 ((rd_T61 l0_0 x9_1).f2))) (fun _ hk => hk.2) (.int .i64 ((rd_T61 l0_0 x9_1).f3))) (fun _ h_ => h_.1))) hb); replace BK192 := Aside0.mk (blk_below (g := gb192) (o := .cells #[.slice (some ad203) l0_0.length c0_0] 32 (0, 0)) (by (with_reducible repeat (first | refine blk_drewN ?_ _ | refine blk_drew ?_ | refine blk_alloc ?_ _)); refine blk_far ?_ NB192_204.out _; refine blk_far ?_ NB192_204.out _; refine blk_far ?_ NB192_204.out _; refine blk_far ?_ NB192_204.out _; (with_reducible repeat (first | refine blk_drewN ?_ _ | refine blk_drew ?_ | refine blk_alloc ?_ _)); exact BK192.out) hb); replace BK193 := Aside0.mk (blk_below (g := gb193) (o := .cells #[.slice none 0 0] 32 (0, 0)) (by (with_reducible repeat (first | refine blk_drewN ?_ _ | refine blk_drew ?_ | refine blk_alloc ?_ _)); refine blk_far ?_ NB193_204.out _; refine blk_far ?_ NB193_204.out _; refine blk_far ?_ NB193_204.out _; refine blk_far ?_ NB193_204.out _; (with_reducible repeat (first | refine blk_drewN ?_ _ | refine blk_drew ?_ | refine blk_alloc ?_ _)); exact BK193.out) hb); replace BK194 := Aside0.mk (blk_below (g := gb194) (o := .cells #[.slice none 0 0] 32 (0, 0)) (by (with_reducible repeat (first | refine blk_drewN ?_ _ | refine blk_drew ?_ | refine blk_alloc ?_ _)); refine blk_far ?_ NB194_204.out _; refine blk_far ?_ NB194_204.out _; refine blk_far ?_ NB194_204.out _; refine blk_far ?_ NB194_204.out _; (with_reducible repeat (first | refine blk_drewN ?_ _ | refine blk_drew ?_ | refine blk_alloc ?_ _)); exact BK194.out) hb); replace BK201 := Aside0.mk (blk_below (g := gb201) (o := .cells #[u202000] 32 (0, 0)) (by (with_reducible repeat (first | refine blk_drewN ?_ _ | refine blk_drew ?_ | refine blk_alloc ?_ _)); refine blk_far ?_ NB201_204.out _; refine blk_far ?_ NB201_204.out _; refine blk_far ?_ NB201_204.out _; refine blk_far ?_ NB201_204.out _; (with_reducible repeat (first | refine blk_drewN ?_ _ | refine blk_drew ?_ | refine blk_alloc ?_ _)); exact BK201.out) hb); replace BK202 := Aside0.mk (blk_below (g := gb202) (o := .cells #[u203000] 32 (0, 0)) (by (with_reducible repeat (first | refine blk_drewN ?_ _ | refine blk_drew ?_ | refine blk_alloc ?_ _)); refine blk_far ?_ NB202_204.out _; refine blk_far ?_ NB202_204.out _; refine blk_far ?_ NB202_204.out _; refine blk_far ?_ NB202_204.out _; (with_reducible repeat (first | refine blk_drewN ?_ _ | refine blk_drew ?_ | refine blk_alloc ?_ _)); exact BK202.out) hb); replace BK204 := Aside0.mk (blk_below (g := gb204) (o := .cells #[.int .i64 ((rd_T61 l0_0 x9_1).f0), .int .i64 ((rd_T61 l0_0 x9_1).f1), .int .i64 ((rd_T61 l0_0 x9_1).f2), .int .i64 ((rd_T61 l0_0 x9_1).f3)] 61 (0, 0)) (by (with_reducible repeat (first | refine blk_drewN ?_ _ | refine blk_drew ?_ | refine blk_alloc ?_ _)); refine blk_put (cs := #[.int .i64 ((rd_T61 l0_0 x9_1).f0), .int .i64 ((rd_T61 l0_0 x9_1).f1), .int .i64 ((rd_T61 l0_0 x9_1).f2), .int .i64 0]) ?_ 3 _ rfl; refine blk_put (cs := #[.int .i64 ((rd_T61 l0_0 x9_1).f0), .int .i64 ((rd_T61 l0_0 x9_1).f1), .int .i64 0, .int .i64 0]) ?_ 2 _ rfl; refine blk_put (cs := #[.int .i64 ((rd_T61 l0_0 x9_1).f0), .int .i64 0, .int .i64 0, .int .i64 0]) ?_ 1 _ rfl; refine blk_put (cs := #[.int .i64 0, .int .i64 0, .int .i64 0, .int .i64 0]) ?_ 0 _ rfl; (with_reducible repeat (first | refine blk_drewN ?_ _ | refine blk_drew ?_ | refine blk_alloc ?_ _)); exact BK204.out) hb); replace HB := Aside0.mk (below_step (by repeat (first | exact zh0 HB | refine below_set ?_ GE192.out | refine below_set ?_ GE193.out | refine below_set ?_ GE194.out | refine below_set ?_ GE201.out | refine below_set ?_ GE202.out | refine below_set ?_ GE204.out)) hb); (try clear hb); (try clear hb2); (try clear hk); (try clear hi)))
         go_meet
         case rel => exact ⟨_, ((a1 == t205)), (by first | rfl | (simp; done) | (simp [*]; done)), H', ⟨by have := HK1.out; first | omega | exact Nat.le_refl _⟩, ⟨zr0 HO_202000⟩, ⟨zr0 HO_203000⟩, ⟨zk0 BK192⟩, ⟨zk0 BK193⟩, ⟨zk0 BK194⟩, ⟨zk0 BK201⟩, ⟨zk0 BK202⟩, ⟨zk0 BK204⟩, ⟨by repeat (first | exact zh0 HB | refine below_set ?_ GE192.out | refine below_set ?_ GE193.out | refine below_set ?_ GE194.out | refine below_set ?_ GE201.out | refine below_set ?_ GE202.out | refine below_set ?_ GE204.out)⟩⟩
      ·rw [if_neg c38] at H
       have c38b0 : decide ((wrap64 (x8_1 + ((rd_T61 l0_0 x9_1).f2))) ≤ a1) = false := decide_eq_false c38
       clear c38
       (first | rw [c38b0] | (simp only [i64_w, i32_w]; rw [c38b0]) | skip)
       have H' := Aside0.mk H
       clear H
       have hnb66 := NB204_192.out
       have hnc66 := NB192_204.out
       have hnb67 := NB204_193.out
       have hnc67 := NB193_204.out
       have hnb68 := NB204_194.out
       have hnc68 := NB194_204.out
       have hnb69 := NB204_201.out
       have hnc69 := NB201_204.out
       have hnb70 := NB204_202.out
       have hnc70 := NB202_204.out
       have hcz71_0 := zc0 BK204 0 rfl
       have hcz71_1 := zc0 BK204 1 rfl
       have hcz71_2 := zc0 BK204 2 rfl
       have hcz71_3 := zc0 BK204 3 rfl
       have hfz71_0 := blk_frozen BK204.out 0
       have hfz71_1 := blk_frozen BK204.out 1
       have hfz71_2 := blk_frozen BK204.out 2
       have hfz71_3 := blk_frozen BK204.out 3
       go_wp2
       go_meet
       case rel => exact ⟨_, (false), (by first | rfl | (simp; done) | (simp [*]; done)), H', ⟨by have := HK1.out; first | omega | exact Nat.le_refl _⟩, ⟨by (with_reducible repeat (first | apply Kd.R_alloc | apply Kd.R_drewN | apply Kd.R_drew)); exact Kd.R_mono (Kd.R_far (p := ⟨gb204, 3, none⟩) (Kd.R_far (p := ⟨gb204, 2, none⟩) (Kd.R_far (p := ⟨gb204, 1, none⟩) (Kd.R_far (p := ⟨gb204, 0, none⟩) (Kd.R_mono HO_202000.out (fun k_ hk => (⟨hk, hk.2⟩ : _ ∧ k_ ≠ gb204))) (fun _ hk => hk.2) (.int .i64 ((rd_T61 l0_0 x9_1).f0))) (fun _ hk => hk.2) (.int .i64 ((rd_T61 l0_0 x9_1).f1))) (fun _ hk => hk.2) (.int .i64 ((rd_T61 l0_0 x9_1).f2))) (fun _ hk => hk.2) (.int .i64 ((rd_T61 l0_0 x9_1).f3))) (fun _ hk => ⟨hk.1.1, hk.1.2⟩)⟩, ⟨by (with_reducible repeat (first | apply Kd.R_alloc | apply Kd.R_drewN | apply Kd.R_drew)); exact Kd.R_mono (Kd.R_far (p := ⟨gb204, 3, none⟩) (Kd.R_far (p := ⟨gb204, 2, none⟩) (Kd.R_far (p := ⟨gb204, 1, none⟩) (Kd.R_far (p := ⟨gb204, 0, none⟩) (Kd.R_mono HO_203000.out (fun k_ hk => (⟨hk, hk.2⟩ : _ ∧ k_ ≠ gb204))) (fun _ hk => hk.2) (.int .i64 ((rd_T61 l0_0 x9_1).f0))) (fun _ hk => hk.2) (.int .i64 ((rd_T61 l0_0 x9_1).f1))) (fun _ hk => hk.2) (.int .i64 ((rd_T61 l0_0 x9_1).f2))) (fun _ hk => hk.2) (.int .i64 ((rd_T61 l0_0 x9_1).f3))) (fun _ hk => ⟨hk.1.1, hk.1.2⟩)⟩, ⟨by (with_reducible repeat (first | refine blk_drewN ?_ _ | refine blk_drew ?_ | refine blk_alloc ?_ _)); refine blk_far ?_ NB192_204.out _; refine blk_far ?_ NB192_204.out _; refine blk_far ?_ NB192_204.out _; refine blk_far ?_ NB192_204.out _; (with_reducible repeat (first | refine blk_drewN ?_ _ | refine blk_drew ?_ | refine blk_alloc ?_ _)); exact BK192.out⟩, ⟨by (with_reducible repeat (first | refine blk_drewN ?_ _ | refine blk_drew ?_ | refine blk_alloc ?_ _)); refine blk_far ?_ NB193_204.out _; refine blk_far ?_ NB193_204.out _; refine blk_far ?_ NB193_204.out _; refine blk_far ?_ NB193_204.out _; (with_reducible repeat (first | refine blk_drewN ?_ _ | refine blk_drew ?_ | refine blk_alloc ?_ _)); exact BK193.out⟩, ⟨by (with_reducible repeat (first | refine blk_drewN ?_ _ | refine blk_drew ?_ | refine blk_alloc ?_ _)); refine blk_far ?_ NB194_204.out _; refine blk_far ?_ NB194_204.out _; refine blk_far ?_ NB194_204.out _; refine blk_far ?_ NB194_204.out _; (with_reducible repeat (first | refine blk_drewN ?_ _ | refine blk_drew ?_ | refine blk_alloc ?_ _)); exact BK194.out⟩, ⟨by (with_reducible repeat (first | refine blk_drewN ?_ _ | refine blk_drew ?_ | refine blk_alloc ?_ _)); refine blk_far ?_ NB201_204.out _; refine blk_far ?_ NB201_204.out _; refine blk_far ?_ NB201_204.out _; refine blk_far ?_ NB201_204.out _; (with_reducible repeat (first | refine blk_drewN ?_ _ | refine blk_drew ?_ | refine blk_alloc ?_ _)); exact BK201.out⟩, ⟨by (with_reducible repeat (first | refine blk_drewN ?_ _ | refine blk_drew ?_ | refine blk_alloc ?_ _)); refine blk_far ?_ NB202_204.out _; refine blk_far ?_ NB202_204.out _; refine blk_far ?_ NB202_204.out _; refine blk_far ?_ NB202_204.out _; (with_reducible repeat (first | refine blk_drewN ?_ _ | refine blk_drew ?_ | refine blk_alloc ?_ _)); exact BK202.out⟩, ⟨by (with_reducible repeat (first | refine blk_drewN ?_ _ | refine blk_drew ?_ | refine blk_alloc ?_ _)); refine blk_put (cs := #[.int .i64 ((rd_T61 l0_0 x9_1).f0), .int .i64 ((rd_T61 l0_0 x9_1).f1), .int .i64 ((rd_T61 l0_0 x9_1).f2), .int .i64 0]) ?_ 3 _ rfl; refine blk_put (cs := #[.int .i64 ((rd_T61 l0_0 x9_1).f0), .int .i64 ((rd_T61 l0_0 x9_1).f1), .int .i64 0, .int .i64 0]) ?_ 2 _ rfl; refine blk_put (cs := #[.int .i64 ((rd_T61 l0_0 x9_1).f0), .int .i64 0, .int .i64 0, .int .i64 0]) ?_ 1 _ rfl; refine blk_put (cs := #[.int .i64 0, .int .i64 0, .int .i64 0, .int .i64 0]) ?_ 0 _ rfl; (with_reducible repeat (first | refine blk_drewN ?_ _ | refine blk_drew ?_ | refine blk_alloc ?_ _)); exact BK204.out⟩, ⟨by repeat (first | exact zh0 HB | refine below_set ?_ GE192.out | refine below_set ?_ GE193.out | refine below_set ?_ GE194.out | refine below_set ?_ GE201.out | refine below_set ?_ GE202.out | refine below_set ?_ GE204.out)⟩⟩
     case rest =>
      clear HC25
      try clear c1
      try clear c2
      try clear p2
      try clear q2
      try clear hx2
      try clear c3
      try clear c4
      try clear c5
      try clear c6
      try clear p6
      try clear c7
      try clear c9
      try clear c14
      try clear c15
      try clear c16
      try clear c17
      try clear c19
      try clear c20
      try clear p20
      try clear q20
      try clear hx20
      try clear c21
      try clear c23
      try clear c23b0
      try clear c24
      try clear c24b0
      try clear c26
      try clear c27
      try clear c28
      try clear c29
      try clear c32
      try clear c33
      try clear c34
      try clear c35
      try clear c36
      try clear c38
      try clear c38b0
      try clear c39
      try clear c39b0
      try clear c40
      try clear c41
      try clear c42
      try clear c43
      try clear c44
      try clear c46
      try clear c46b0
      try clear c47
      try clear c48
      try clear c49
      try clear c50
      try clear c51
      try clear c54
      try clear c55
      try clear c56
      try clear c57
      try clear c58
      try clear c60
      try clear c61
      try clear c62
      try clear c63
      try clear p64
      try clear c66
      try clear c67
      try clear c68
      try clear c69
      try clear c70
      try clear hcz18_0
      try clear hcz22_0
      try clear hcz30_0
      try clear hcz37_0
      try clear hcz37_1
      try clear hcz37_2
      try clear hcz37_3
      try clear hcz45_0
      try clear hcz45_1
      try clear hcz45_2
      try clear hcz45_3
      try clear hcz52_0
      try clear hcz52_1
      try clear hcz52_2
      try clear hcz52_3
      try clear hcz59_0
      try clear hcz59_1
      try clear hcz59_2
      try clear hcz59_3
      try clear hcz64_0
      try clear hcz71_0
      try clear hcz71_1
      try clear hcz71_2
      try clear hcz71_3
      try clear hfz18_0
      try clear hfz22_0
      try clear hfz30_0
      try clear hfz37_0
      try clear hfz37_1
      try clear hfz37_2
      try clear hfz37_3
      try clear hfz45_0
      try clear hfz45_1
      try clear hfz45_2
      try clear hfz45_3
      try clear hfz52_0
      try clear hfz52_1
      try clear hfz52_2
      try clear hfz52_3
      try clear hfz59_0
      try clear hfz59_1
      try clear hfz59_2
      try clear hfz59_3
      try clear hfz64_0
      try clear hfz71_0
      try clear hfz71_1
      try clear hfz71_2
      try clear hfz71_3
      try clear hx203_0
      try clear hx203_1
      try clear hx203_2
      try clear hx203_3
      try clear p2
      try clear p203
      try clear q203
      obtain ⟨kq, x54_24, rfl, HA, HJ24, HO_202000, HO_203000, BK192, BK193, BK194, BK201, BK202, BK204, HB⟩ := hcut
      cases kq with
      | zero => exact absurd HA.out (by simp [spec_l7Split.j1])
      | succ kj24 =>
       have H := HA.out
       clear HA
       simp only [spec_l7Split.j1] at H
       by_cases c72 : x54_24 = true
       ·subst c72
        have H1 : (if x202000_1.length < 4398046511104 then (spec_l7Split.l0 kj24 a1 (wrap64 (x8_1 + ((rd_T61 l0_0 x9_1).f2))) (wrap64 (x9_1 + 1)) l0_0 (x202000_1 ++ [(⟨((rd_T61 l0_0 x9_1).f0), ((rd_T61 l0_0 x9_1).f1), ((rd_T61 l0_0 x9_1).f2), ((rd_T61 l0_0 x9_1).f3)⟩ : S61)]) x203000_1) else (none)) = some (r1, r2) := by rw [if_pos rfl] at H; exact H
        clear H
        have H := H1
        clear H1
        by_cases c73 : x202000_1.length < 4398046511104
        ·rw [if_pos c73] at H
         have LMc73 := Aside0.mk c73
         clear c73
         obtain ⟨y206, hy206⟩ : ∃ y_ : List (S61), y_ = (x202000_1 ++ [(⟨((rd_T61 l0_0 x9_1).f0), ((rd_T61 l0_0 x9_1).f1), ((rd_T61 l0_0 x9_1).f2), ((rd_T61 l0_0 x9_1).f3)⟩ : S61)]) := ⟨_, rfl⟩
         replace H : (spec_l7Split.l0 kj24 a1 (wrap64 (x8_1 + ((rd_T61 l0_0 x9_1).f2))) (wrap64 (x9_1 + 1)) l0_0 y206 x203000_1) = some (r1, r2) := by first | (rw [hy206]; with_reducible exact H) | (have H2_ := (Option.bind_some _ _).symm.trans H; rw [hy206]; with_reducible exact H2_) | (have H2_ := (Option.bind_some _ _).symm.trans H; with_reducible exact H2_) | with_reducible exact H | (rw [hy206]; exact H) | exact H
         have Ny206 := Aside0.mk hy206
         clear hy206
         have H' := Aside0.mk H
         clear H
         have hnb74 := NB201_192.out
         have hnc74 := NB192_201.out
         have hnb75 := NB201_193.out
         have hnc75 := NB193_201.out
         have hnb76 := NB201_194.out
         have hnc76 := NB194_201.out
         have hnb77 := NB201_202.out
         have hnc77 := NB202_201.out
         have hnb78 := NB201_204.out
         have hnc78 := NB204_201.out
         have hcz79_0 := zc0 BK201 0 rfl
         have hfz79_0 := blk_frozen BK201.out 0
         have hnb80 := NB204_192.out
         have hnc80 := NB192_204.out
         have hnb81 := NB204_193.out
         have hnc81 := NB193_204.out
         have hnb82 := NB204_194.out
         have hnc82 := NB194_204.out
         have hnb83 := NB204_202.out
         have hnc83 := NB202_204.out
         have hcz84_0 := zc0 BK204 0 rfl
         have hcz84_1 := zc0 BK204 1 rfl
         have hcz84_2 := zc0 BK204 2 rfl
         have hcz84_3 := zc0 BK204 3 rfl
         have hfz84_0 := blk_frozen BK204.out 0
         have hfz84_1 := blk_frozen BK204.out 1
         have hfz84_2 := blk_frozen BK204.out 2
         have hfz84_3 := blk_frozen BK204.out 3
         go_wp2_with (first | ((with_reducible refine gate_builtin (b := .append) (xs := #[.tmp 78, .tmp 80]) rfl ?_); at_builtin; refine Kd.R_append k61 (w0 := w) w.heap.size rfl (.tmp 78) (.tmp 80) 30 61 (.agg #[(.int .i64 0), (.int .i64 0), (.int .i64 0), (.int .i64 0)]) 32 rfl Try.underlying30 info61 rfl (by decide) (by omega) u202000 x202000_1 (⟨((rd_T61 l0_0 x9_1).f0), ((rd_T61 l0_0 x9_1).f1), ((rd_T61 l0_0 x9_1).f2), ((rd_T61 l0_0 x9_1).f3)⟩ : S61) [.int .i64 ((rd_T61 l0_0 x9_1).f0), .int .i64 ((rd_T61 l0_0 x9_1).f1), .int .i64 ((rd_T61 l0_0 x9_1).f2), .int .i64 ((rd_T61 l0_0 x9_1).f3)] (fun k_ => some k_ ≠ (u203000 : Value).ownBlock ∧ k_ ≠ gb204) (fun _ => False) rfl rfl ?aP (fun _ hk => hk.elim) ?aF ?aO ?aB ?aS ?aL ?_; (case aP => exact k61_mkM _ _ _ (⟨((rd_T61 l0_0 x9_1).f0), ((rd_T61 l0_0 x9_1).f1), ((rd_T61 l0_0 x9_1).f2), ((rd_T61 l0_0 x9_1).f3)⟩ : S61)); (case aB => exact (by repeat (first | exact zh0 HB | refine below_set ?_ GE192.out | refine below_set ?_ GE193.out | refine below_set ?_ GE194.out | refine below_set ?_ GE201.out | refine below_set ?_ GE202.out | refine below_set ?_ GE204.out))); (case aF => exact (fun k_ hk => ⟨Kd.fresh' (Kd.R_lt (zr0 HO_203000)) k_ hk, Kd.freshB (g := gb204) (o := .cells #[.int .i64 ((rd_T61 l0_0 x9_1).f0), .int .i64 ((rd_T61 l0_0 x9_1).f1), .int .i64 ((rd_T61 l0_0 x9_1).f2), .int .i64 ((rd_T61 l0_0 x9_1).f3)] 61 (0, 0)) (zk0 BK204) k_ hk⟩)); (case aO => exact (zr0 HO_202000)); (case aS => exact (below_size (by repeat (first | exact zh0 HB | refine below_set ?_ GE192.out | refine below_set ?_ GE193.out | refine below_set ?_ GE194.out | refine below_set ?_ GE201.out | refine below_set ?_ GE202.out | refine below_set ?_ GE204.out)))); (case aL => have := LMc73.out; omega); intro v207 w85 ho hb hg hat; rw [← Ny206.out] at ho; have n0_ := Aside0.mk (Kd.R_after (ok := (fun k_ => k_ ≠ gb204)) (by (with_reducible repeat (first | apply Kd.R_alloc | apply Kd.R_drewN | apply Kd.R_drew)); exact Kd.R_mono HO_203000.out (fun _ hk => ⟨hk.2, hk.1⟩)) hg hat); have n1_ := Aside0.mk (blk_grown (g := gb192) (o := .cells #[.slice (some ad203) l0_0.length c0_0] 32 (0, 0)) (zk0 BK192) hg (Kd.R_ne HO_202000.out BK192.out (by decide))); have n2_ := Aside0.mk (blk_grown (g := gb193) (o := .cells #[.slice none 0 0] 32 (0, 0)) (zk0 BK193) hg (Kd.R_ne HO_202000.out BK193.out (by decide))); have n3_ := Aside0.mk (blk_grown (g := gb194) (o := .cells #[.slice none 0 0] 32 (0, 0)) (zk0 BK194) hg (Kd.R_ne HO_202000.out BK194.out (by decide))); have n4_ := Aside0.mk (blk_grown (g := gb201) (o := .cells #[u202000] 32 (0, 0)) (zk0 BK201) hg (Kd.R_ne HO_202000.out BK201.out (by decide))); have n5_ := Aside0.mk (blk_grown (g := gb202) (o := .cells #[u203000] 32 (0, 0)) (zk0 BK202) hg (Kd.R_ne HO_202000.out BK202.out (by decide))); have n6_ := Aside0.mk (blk_grown (g := gb204) (o := .cells #[.int .i64 ((rd_T61 l0_0 x9_1).f0), .int .i64 ((rd_T61 l0_0 x9_1).f1), .int .i64 ((rd_T61 l0_0 x9_1).f2), .int .i64 ((rd_T61 l0_0 x9_1).f3)] 61 (0, 0)) (zk0 BK204) hg (Kd.R_away HO_202000.out (fun _ hk => hk.2))); have n7_ := Aside0.mk (hb); have n8_ := Aside0.mk (ho); clear HO_203000; clear BK192; clear BK193; clear BK194; clear BK201; clear BK202; clear BK204; clear HB; clear HO_202000; have HO_203000 := n0_; have BK192 := n1_; have BK193 := n2_; have BK194 := n3_; have BK201 := n4_; have BK202 := n5_; have BK204 := n6_; have HB := n7_; have HO208 := n8_; clear n0_ n1_ n2_ n3_ n4_ n5_ n6_ n7_ n8_; clear ho hb hg hat; obtain ⟨Ao86, co86, eo86⟩ := Kd.R_slice HO208.out; subst eo86; have hcz87_0 := zc0 BK201 0 rfl; have hfz87_0 := blk_frozen BK201.out 0; have hcz88_0 := zc0 BK204 0 rfl; have hcz88_1 := zc0 BK204 1 rfl; have hcz88_2 := zc0 BK204 2 rfl; have hcz88_3 := zc0 BK204 3 rfl; have hfz88_0 := blk_frozen BK204.out 0; have hfz88_1 := blk_frozen BK204.out 1; have hfz88_2 := blk_frozen BK204.out 2; have hfz88_3 := blk_frozen BK204.out 3))
         go_roundg kj24
         case measure => have := HK1.out; have := HJ24.out; omega
         case rel => exact ⟨(wrap64 (x8_1 + ((rd_T61 l0_0 x9_1).f2))), (wrap64 (x9_1 + 1)), (y206), (x203000_1), (.slice Ao86 y206.length co86), (u203000), (by first | rfl | (simp; done) | (simp [*]; done)), (by first | rfl | (simp; done) | (simp [*]; done)), H', ⟨by have := HK1.out; have := HJ24.out; omega⟩, ⟨by (with_reducible repeat (first | apply Kd.R_alloc | apply Kd.R_drewN | apply Kd.R_drew)); exact Kd.R_mono (Kd.R_far (p := ⟨gb201, 0, none⟩) (Kd.R_types HO208.out BK201.out (by decide)) (fun _ hk => hk.2) (.slice Ao86 y206.length co86)) (fun _ hk => hk.1.1)⟩, ⟨by (with_reducible repeat (first | apply Kd.R_alloc | apply Kd.R_drewN | apply Kd.R_drew)); exact Kd.R_mono (Kd.R_far (p := ⟨gb201, 0, none⟩) (Kd.R_types HO_203000.out BK201.out (by decide)) (fun _ hk => hk.2) (.slice Ao86 y206.length co86)) (fun _ hk => hk.1.2)⟩, ⟨by (with_reducible repeat (first | refine blk_drewN ?_ _ | refine blk_drew ?_ | refine blk_alloc ?_ _)); refine blk_far ?_ NB192_201.out _; (with_reducible repeat (first | refine blk_drewN ?_ _ | refine blk_drew ?_ | refine blk_alloc ?_ _)); exact BK192.out⟩, ⟨by (with_reducible repeat (first | refine blk_drewN ?_ _ | refine blk_drew ?_ | refine blk_alloc ?_ _)); refine blk_far ?_ NB193_201.out _; (with_reducible repeat (first | refine blk_drewN ?_ _ | refine blk_drew ?_ | refine blk_alloc ?_ _)); exact BK193.out⟩, ⟨by (with_reducible repeat (first | refine blk_drewN ?_ _ | refine blk_drew ?_ | refine blk_alloc ?_ _)); refine blk_far ?_ NB194_201.out _; (with_reducible repeat (first | refine blk_drewN ?_ _ | refine blk_drew ?_ | refine blk_alloc ?_ _)); exact BK194.out⟩, ⟨by (with_reducible repeat (first | refine blk_drewN ?_ _ | refine blk_drew ?_ | refine blk_alloc ?_ _)); refine blk_put (cs := #[u202000]) ?_ 0 _ rfl; (with_reducible repeat (first | refine blk_drewN ?_ _ | refine blk_drew ?_ | refine blk_alloc ?_ _)); exact BK201.out⟩, ⟨by (with_reducible repeat (first | refine blk_drewN ?_ _ | refine blk_drew ?_ | refine blk_alloc ?_ _)); refine blk_far ?_ NB202_201.out _; (with_reducible repeat (first | refine blk_drewN ?_ _ | refine blk_drew ?_ | refine blk_alloc ?_ _)); exact BK202.out⟩, ⟨by repeat (first | exact zh0 HB | refine below_set ?_ GE192.out | refine below_set ?_ GE193.out | refine below_set ?_ GE194.out | refine below_set ?_ GE201.out | refine below_set ?_ GE202.out | refine below_set ?_ GE204.out)⟩⟩
        ·rw [if_neg c73] at H
         exact absurd H (by simp)
       ·replace c72 := Bool.eq_false_iff.mpr c72
        subst c72
        have H1 : (if x8_1 ≥ a1 then (if x203000_1.length < 4398046511104 then (spec_l7Split.l0 kj24 a1 (wrap64 (x8_1 + ((rd_T61 l0_0 x9_1).f2))) (wrap64 (x9_1 + 1)) l0_0 x202000_1 (x203000_1 ++ [(⟨((rd_T61 l0_0 x9_1).f0), ((rd_T61 l0_0 x9_1).f1), ((rd_T61 l0_0 x9_1).f2), ((rd_T61 l0_0 x9_1).f3)⟩ : S61)])) else (none)) else ((spec_l2Slice.f ((rd_T61 l0_0 x9_1).f0) ((rd_T61 l0_0 x9_1).f1) ((rd_T61 l0_0 x9_1).f2) ((rd_T61 l0_0 x9_1).f3) 0 (wrap64 (a1 - x8_1)) (wrap64 (a1 - x8_1))).bind fun bt212 => (if x202000_1.length < 4398046511104 then ((spec_l2Slice.f ((rd_T61 l0_0 x9_1).f0) ((rd_T61 l0_0 x9_1).f1) ((rd_T61 l0_0 x9_1).f2) ((rd_T61 l0_0 x9_1).f3) (wrap64 (a1 - x8_1)) ((rd_T61 l0_0 x9_1).f2) ((rd_T61 l0_0 x9_1).f3)).bind fun bt219 => (if x203000_1.length < 4398046511104 then (spec_l7Split.l0 kj24 a1 (wrap64 (x8_1 + ((rd_T61 l0_0 x9_1).f2))) (wrap64 (x9_1 + 1)) l0_0 (x202000_1 ++ [(⟨bt212.1, bt212.2.1, bt212.2.2.1, bt212.2.2.2⟩ : S61)]) (x203000_1 ++ [(⟨bt219.1, bt219.2.1, bt219.2.2.1, bt219.2.2.2⟩ : S61)])) else (none))) else (none)))) = some (r1, r2) := by rw [if_neg (show ¬ (false = true) by decide)] at H; exact H
        clear H
        have H := H1
        clear H1
        by_cases c89 : x8_1 ≥ a1
        ·rw [if_pos c89] at H
         have c89b0 : decide (a1 ≤ x8_1) = true := decide_eq_true c89
         clear c89
         by_cases c90 : x203000_1.length < 4398046511104
         ·rw [if_pos c90] at H
          have LMc90 := Aside0.mk c90
          clear c90
          obtain ⟨y209, hy209⟩ : ∃ y_ : List (S61), y_ = (x203000_1 ++ [(⟨((rd_T61 l0_0 x9_1).f0), ((rd_T61 l0_0 x9_1).f1), ((rd_T61 l0_0 x9_1).f2), ((rd_T61 l0_0 x9_1).f3)⟩ : S61)]) := ⟨_, rfl⟩
          replace H : (spec_l7Split.l0 kj24 a1 (wrap64 (x8_1 + ((rd_T61 l0_0 x9_1).f2))) (wrap64 (x9_1 + 1)) l0_0 x202000_1 y209) = some (r1, r2) := by first | (rw [hy209]; with_reducible exact H) | (have H2_ := (Option.bind_some _ _).symm.trans H; rw [hy209]; with_reducible exact H2_) | (have H2_ := (Option.bind_some _ _).symm.trans H; with_reducible exact H2_) | with_reducible exact H | (rw [hy209]; exact H) | exact H
          have Ny209 := Aside0.mk hy209
          clear hy209
          have H' := Aside0.mk H
          clear H
          have hnb91 := NB202_192.out
          have hnc91 := NB192_202.out
          have hnb92 := NB202_193.out
          have hnc92 := NB193_202.out
          have hnb93 := NB202_194.out
          have hnc93 := NB194_202.out
          have hnb94 := NB202_201.out
          have hnc94 := NB201_202.out
          have hnb95 := NB202_204.out
          have hnc95 := NB204_202.out
          have hcz96_0 := zc0 BK202 0 rfl
          have hfz96_0 := blk_frozen BK202.out 0
          have hnb97 := NB204_192.out
          have hnc97 := NB192_204.out
          have hnb98 := NB204_193.out
          have hnc98 := NB193_204.out
          have hnb99 := NB204_194.out
          have hnc99 := NB194_204.out
          have hnb100 := NB204_201.out
          have hnc100 := NB201_204.out
          have hcz101_0 := zc0 BK204 0 rfl
          have hcz101_1 := zc0 BK204 1 rfl
          have hcz101_2 := zc0 BK204 2 rfl
          have hcz101_3 := zc0 BK204 3 rfl
          have hfz101_0 := blk_frozen BK204.out 0
          have hfz101_1 := blk_frozen BK204.out 1
          have hfz101_2 := blk_frozen BK204.out 2
          have hfz101_3 := blk_frozen BK204.out 3
          go_wp2_with (first | ((with_reducible refine gate_builtin (b := .append) (xs := #[.tmp 88, .tmp 90]) rfl ?_); at_builtin; refine Kd.R_append k61 (w0 := w) w.heap.size rfl (.tmp 88) (.tmp 90) 30 61 (.agg #[(.int .i64 0), (.int .i64 0), (.int .i64 0), (.int .i64 0)]) 32 rfl Try.underlying30 info61 rfl (by decide) (by omega) u203000 x203000_1 (⟨((rd_T61 l0_0 x9_1).f0), ((rd_T61 l0_0 x9_1).f1), ((rd_T61 l0_0 x9_1).f2), ((rd_T61 l0_0 x9_1).f3)⟩ : S61) [.int .i64 ((rd_T61 l0_0 x9_1).f0), .int .i64 ((rd_T61 l0_0 x9_1).f1), .int .i64 ((rd_T61 l0_0 x9_1).f2), .int .i64 ((rd_T61 l0_0 x9_1).f3)] (fun k_ => some k_ ≠ (u202000 : Value).ownBlock ∧ k_ ≠ gb204) (fun _ => False) rfl rfl ?aP (fun _ hk => hk.elim) ?aF ?aO ?aB ?aS ?aL ?_; (case aP => exact k61_mkM _ _ _ (⟨((rd_T61 l0_0 x9_1).f0), ((rd_T61 l0_0 x9_1).f1), ((rd_T61 l0_0 x9_1).f2), ((rd_T61 l0_0 x9_1).f3)⟩ : S61)); (case aB => exact (by repeat (first | exact zh0 HB | refine below_set ?_ GE192.out | refine below_set ?_ GE193.out | refine below_set ?_ GE194.out | refine below_set ?_ GE201.out | refine below_set ?_ GE202.out | refine below_set ?_ GE204.out))); (case aF => exact (fun k_ hk => ⟨Kd.fresh' (Kd.R_lt (zr0 HO_202000)) k_ hk, Kd.freshB (g := gb204) (o := .cells #[.int .i64 ((rd_T61 l0_0 x9_1).f0), .int .i64 ((rd_T61 l0_0 x9_1).f1), .int .i64 ((rd_T61 l0_0 x9_1).f2), .int .i64 ((rd_T61 l0_0 x9_1).f3)] 61 (0, 0)) (zk0 BK204) k_ hk⟩)); (case aO => exact (zr0 HO_203000)); (case aS => exact (below_size (by repeat (first | exact zh0 HB | refine below_set ?_ GE192.out | refine below_set ?_ GE193.out | refine below_set ?_ GE194.out | refine below_set ?_ GE201.out | refine below_set ?_ GE202.out | refine below_set ?_ GE204.out)))); (case aL => have := LMc90.out; omega); intro v210 w102 ho hb hg hat; rw [← Ny209.out] at ho; have n0_ := Aside0.mk (Kd.R_after (ok := (fun k_ => k_ ≠ gb204)) (by (with_reducible repeat (first | apply Kd.R_alloc | apply Kd.R_drewN | apply Kd.R_drew)); exact Kd.R_mono HO_202000.out (fun _ hk => ⟨hk.2, hk.1⟩)) hg hat); have n1_ := Aside0.mk (blk_grown (g := gb192) (o := .cells #[.slice (some ad203) l0_0.length c0_0] 32 (0, 0)) (zk0 BK192) hg (Kd.R_ne HO_203000.out BK192.out (by decide))); have n2_ := Aside0.mk (blk_grown (g := gb193) (o := .cells #[.slice none 0 0] 32 (0, 0)) (zk0 BK193) hg (Kd.R_ne HO_203000.out BK193.out (by decide))); have n3_ := Aside0.mk (blk_grown (g := gb194) (o := .cells #[.slice none 0 0] 32 (0, 0)) (zk0 BK194) hg (Kd.R_ne HO_203000.out BK194.out (by decide))); have n4_ := Aside0.mk (blk_grown (g := gb201) (o := .cells #[u202000] 32 (0, 0)) (zk0 BK201) hg (Kd.R_ne HO_203000.out BK201.out (by decide))); have n5_ := Aside0.mk (blk_grown (g := gb202) (o := .cells #[u203000] 32 (0, 0)) (zk0 BK202) hg (Kd.R_ne HO_203000.out BK202.out (by decide))); have n6_ := Aside0.mk (blk_grown (g := gb204) (o := .cells #[.int .i64 ((rd_T61 l0_0 x9_1).f0), .int .i64 ((rd_T61 l0_0 x9_1).f1), .int .i64 ((rd_T61 l0_0 x9_1).f2), .int .i64 ((rd_T61 l0_0 x9_1).f3)] 61 (0, 0)) (zk0 BK204) hg (Kd.R_away HO_203000.out (fun _ hk => hk.2))); have n7_ := Aside0.mk (hb); have n8_ := Aside0.mk (ho); clear HO_202000; clear BK192; clear BK193; clear BK194; clear BK201; clear BK202; clear BK204; clear HB; clear HO_203000; have HO_202000 := n0_; have BK192 := n1_; have BK193 := n2_; have BK194 := n3_; have BK201 := n4_; have BK202 := n5_; have BK204 := n6_; have HB := n7_; have HO211 := n8_; clear n0_ n1_ n2_ n3_ n4_ n5_ n6_ n7_ n8_; clear ho hb hg hat; obtain ⟨Ao103, co103, eo103⟩ := Kd.R_slice HO211.out; subst eo103; have hcz104_0 := zc0 BK202 0 rfl; have hfz104_0 := blk_frozen BK202.out 0; have hcz105_0 := zc0 BK204 0 rfl; have hcz105_1 := zc0 BK204 1 rfl; have hcz105_2 := zc0 BK204 2 rfl; have hcz105_3 := zc0 BK204 3 rfl; have hfz105_0 := blk_frozen BK204.out 0; have hfz105_1 := blk_frozen BK204.out 1; have hfz105_2 := blk_frozen BK204.out 2; have hfz105_3 := blk_frozen BK204.out 3))
          go_roundg kj24
          case measure => have := HK1.out; have := HJ24.out; omega
          case rel => exact ⟨(wrap64 (x8_1 + ((rd_T61 l0_0 x9_1).f2))), (wrap64 (x9_1 + 1)), (x202000_1), (y209), (u202000), (.slice Ao103 y209.length co103), (by first | rfl | (simp; done) | (simp [*]; done)), (by first | rfl | (simp; done) | (simp [*]; done)), H', ⟨by have := HK1.out; have := HJ24.out; omega⟩, ⟨by (with_reducible repeat (first | apply Kd.R_alloc | apply Kd.R_drewN | apply Kd.R_drew)); exact Kd.R_mono (Kd.R_far (p := ⟨gb202, 0, none⟩) (Kd.R_types HO_202000.out BK202.out (by decide)) (fun _ hk => hk.2) (.slice Ao103 y209.length co103)) (fun _ hk => hk.1.2)⟩, ⟨by (with_reducible repeat (first | apply Kd.R_alloc | apply Kd.R_drewN | apply Kd.R_drew)); exact Kd.R_mono (Kd.R_far (p := ⟨gb202, 0, none⟩) (Kd.R_types HO211.out BK202.out (by decide)) (fun _ hk => hk.2) (.slice Ao103 y209.length co103)) (fun _ hk => hk.1.1)⟩, ⟨by (with_reducible repeat (first | refine blk_drewN ?_ _ | refine blk_drew ?_ | refine blk_alloc ?_ _)); refine blk_far ?_ NB192_202.out _; (with_reducible repeat (first | refine blk_drewN ?_ _ | refine blk_drew ?_ | refine blk_alloc ?_ _)); exact BK192.out⟩, ⟨by (with_reducible repeat (first | refine blk_drewN ?_ _ | refine blk_drew ?_ | refine blk_alloc ?_ _)); refine blk_far ?_ NB193_202.out _; (with_reducible repeat (first | refine blk_drewN ?_ _ | refine blk_drew ?_ | refine blk_alloc ?_ _)); exact BK193.out⟩, ⟨by (with_reducible repeat (first | refine blk_drewN ?_ _ | refine blk_drew ?_ | refine blk_alloc ?_ _)); refine blk_far ?_ NB194_202.out _; (with_reducible repeat (first | refine blk_drewN ?_ _ | refine blk_drew ?_ | refine blk_alloc ?_ _)); exact BK194.out⟩, ⟨by (with_reducible repeat (first | refine blk_drewN ?_ _ | refine blk_drew ?_ | refine blk_alloc ?_ _)); refine blk_far ?_ NB201_202.out _; (with_reducible repeat (first | refine blk_drewN ?_ _ | refine blk_drew ?_ | refine blk_alloc ?_ _)); exact BK201.out⟩, ⟨by (with_reducible repeat (first | refine blk_drewN ?_ _ | refine blk_drew ?_ | refine blk_alloc ?_ _)); refine blk_put (cs := #[u203000]) ?_ 0 _ rfl; (with_reducible repeat (first | refine blk_drewN ?_ _ | refine blk_drew ?_ | refine blk_alloc ?_ _)); exact BK202.out⟩, ⟨by repeat (first | exact zh0 HB | refine below_set ?_ GE192.out | refine below_set ?_ GE193.out | refine below_set ?_ GE194.out | refine below_set ?_ GE201.out | refine below_set ?_ GE202.out | refine below_set ?_ GE204.out)⟩⟩
         ·rw [if_neg c90] at H
          exact absurd H (by simp)
        ·rw [if_neg c89] at H
         have c89b0 : decide (a1 ≤ x8_1) = false := decide_eq_false c89
         clear c89
         replace H := Option.bind_eq_some_iff.mp H
         obtain ⟨⟨t212, t213, t214, t215⟩, A1060, H⟩ := H
         replace H : (if x202000_1.length < 4398046511104 then ((spec_l2Slice.f ((rd_T61 l0_0 x9_1).f0) ((rd_T61 l0_0 x9_1).f1) ((rd_T61 l0_0 x9_1).f2) ((rd_T61 l0_0 x9_1).f3) (wrap64 (a1 - x8_1)) ((rd_T61 l0_0 x9_1).f2) ((rd_T61 l0_0 x9_1).f3)).bind fun bt219 => (if x203000_1.length < 4398046511104 then (spec_l7Split.l0 kj24 a1 (wrap64 (x8_1 + ((rd_T61 l0_0 x9_1).f2))) (wrap64 (x9_1 + 1)) l0_0 (x202000_1 ++ [(⟨t212, t213, t214, t215⟩ : S61)]) (x203000_1 ++ [(⟨bt219.1, bt219.2.1, bt219.2.2.1, bt219.2.2.2⟩ : S61)])) else (none))) else (none)) = some (r1, r2) := H
         have A106 := Aside0.mk A1060
         clear A1060
         by_cases c107 : x202000_1.length < 4398046511104
         ·rw [if_pos c107] at H
          have LMc107 := Aside0.mk c107
          clear c107
          obtain ⟨y216, hy216⟩ : ∃ y_ : List (S61), y_ = (x202000_1 ++ [(⟨t212, t213, t214, t215⟩ : S61)]) := ⟨_, rfl⟩
          replace H : ((spec_l2Slice.f ((rd_T61 l0_0 x9_1).f0) ((rd_T61 l0_0 x9_1).f1) ((rd_T61 l0_0 x9_1).f2) ((rd_T61 l0_0 x9_1).f3) (wrap64 (a1 - x8_1)) ((rd_T61 l0_0 x9_1).f2) ((rd_T61 l0_0 x9_1).f3)).bind fun bt219 => (if x203000_1.length < 4398046511104 then (spec_l7Split.l0 kj24 a1 (wrap64 (x8_1 + ((rd_T61 l0_0 x9_1).f2))) (wrap64 (x9_1 + 1)) l0_0 y216 (x203000_1 ++ [(⟨bt219.1, bt219.2.1, bt219.2.2.1, bt219.2.2.2⟩ : S61)])) else (none))) = some (r1, r2) := by first | (rw [hy216]; with_reducible exact H) | (have H2_ := (Option.bind_some _ _).symm.trans H; rw [hy216]; with_reducible exact H2_) | (have H2_ := (Option.bind_some _ _).symm.trans H; with_reducible exact H2_) | with_reducible exact H | (rw [hy216]; exact H) | exact H
          have Ny216 := Aside0.mk hy216
          clear hy216
          replace H := Option.bind_eq_some_iff.mp H
          obtain ⟨⟨t219, t220, t221, t222⟩, A1080, H⟩ := H
          replace H : (if x203000_1.length < 4398046511104 then (spec_l7Split.l0 kj24 a1 (wrap64 (x8_1 + ((rd_T61 l0_0 x9_1).f2))) (wrap64 (x9_1 + 1)) l0_0 y216 (x203000_1 ++ [(⟨t219, t220, t221, t222⟩ : S61)])) else (none)) = some (r1, r2) := H
          have A108 := Aside0.mk A1080
          clear A1080
          by_cases c109 : x203000_1.length < 4398046511104
          ·rw [if_pos c109] at H
           have LMc109 := Aside0.mk c109
           clear c109
           obtain ⟨y223, hy223⟩ : ∃ y_ : List (S61), y_ = (x203000_1 ++ [(⟨t219, t220, t221, t222⟩ : S61)]) := ⟨_, rfl⟩
           replace H : (spec_l7Split.l0 kj24 a1 (wrap64 (x8_1 + ((rd_T61 l0_0 x9_1).f2))) (wrap64 (x9_1 + 1)) l0_0 y216 y223) = some (r1, r2) := by first | (rw [hy223]; with_reducible exact H) | (have H2_ := (Option.bind_some _ _).symm.trans H; rw [hy223]; with_reducible exact H2_) | (have H2_ := (Option.bind_some _ _).symm.trans H; with_reducible exact H2_) | with_reducible exact H | (rw [hy223]; exact H) | exact H
           have Ny223 := Aside0.mk hy223
           clear hy223
           have H' := Aside0.mk H
           clear H
           try go_wp2
           replace HO_202000 := Aside0.mk (Kd.R_drew HO_202000.out)
           replace HO_203000 := Aside0.mk (Kd.R_drew HO_203000.out)
           replace BK192 := Aside0.mk (blk_drew BK192.out)
           replace BK193 := Aside0.mk (blk_drew BK193.out)
           replace BK194 := Aside0.mk (blk_drew BK194.out)
           replace BK201 := Aside0.mk (blk_drew BK201.out)
           replace BK202 := Aside0.mk (blk_drew BK202.out)
           replace BK204 := Aside0.mk (blk_drew BK204.out)
           replace HB := Aside0.mk (below_drew1 HB.out)
           refine start_ (n := 14) (S := fun w' => w'.cell? ⟨gb201, 0, none⟩ = some (u202000) ∧ w'.cell? ⟨gb204, 0, none⟩ = some (.int .i64 ((rd_T61 l0_0 x9_1).f0)) ∧ w'.cell? ⟨gb204, 1, none⟩ = some (.int .i64 ((rd_T61 l0_0 x9_1).f1)) ∧ w'.cell? ⟨gb204, 2, none⟩ = some (.int .i64 ((rd_T61 l0_0 x9_1).f2)) ∧ w'.cell? ⟨gb204, 3, none⟩ = some (.int .i64 ((rd_T61 l0_0 x9_1).f3))) (ds := [13]) #[zF, zF, zF, zF, zF, zF, zF, zF, zF, zF, zF, zF, zF, zF] (by kernel_rfl) rfl rfl ⟨zc0 BK201 0 rfl, zc0 BK204 0 rfl, zc0 BK204 1 rfl, zc0 BK204 2 rfl, zc0 BK204 3 rfl⟩ (fun hHeld => ?_); refine with_tabW spec_l7Split.tab7 spec_l7Split.bits7 (fun HT_ HW_ => ?_)
           generalize wc.drew = w110 at HO_202000 HO_203000 BK192 BK193 BK194 BK201 BK202 BK204 HB hHeld ⊢
           refine pure_ (i := 0) (N := some 27) (v := ?_) (a' := ?_) #[zT, zF, zF, zF, zF, zF, zF, zF, zF, zF, zF, zF, zF, zF] rfl rfl (any_of HT_.out (by kernel_rfl)) (fun _ _ _ h => h) (Or.inl ⟨by rfl, ?_⟩) ?_ ?_
           rotate_left
           ·intro w'
            go_simp
            with_reducible rfl
           rotate_left
           ·simp only [Act.put, zp1, zp2, zp3, i64_w, i32_w]
            rfl
           refine pure_ (i := 3) (N := some 30) (v := ?_) (a' := ?_) #[zT, zF, zF, zT, zF, zF, zF, zF, zF, zF, zF, zF, zF, zF] rfl rfl (any_of HT_.out (by kernel_rfl)) (fun _ _ _ h => h) (Or.inl ⟨by rfl, ?_⟩) ?_ ?_
           rotate_left
           ·intro w'
            go_simp
            with_reducible rfl
           rotate_left
           ·simp only [Act.put, zp1, zp2, zp3, i64_w, i32_w]
            rfl
           refine pure_ (i := 4) (N := some 31) (v := ?_) (a' := ?_) #[zT, zF, zF, zT, zT, zF, zF, zF, zF, zF, zF, zF, zF, zF] rfl rfl (any_of HT_.out (by kernel_rfl)) (fun _ _ _ h => h) (Or.inl ⟨by rfl, ?_⟩) ?_ ?_
           rotate_left
           ·intro w'
            go_simp
            with_reducible rfl
           rotate_left
           ·simp only [Act.put, zp1, zp2, zp3, i64_w, i32_w]
            rfl
           refine pure_ (i := 5) (N := some 32) (v := ?_) (a' := ?_) #[zT, zF, zF, zT, zT, zT, zF, zF, zF, zF, zF, zF, zF, zF] rfl rfl (any_of HT_.out (by kernel_rfl)) (fun _ _ _ h => h) (Or.inl ⟨by rfl, ?_⟩) ?_ ?_
           rotate_left
           ·intro w'
            go_simp
            with_reducible rfl
           rotate_left
           ·simp only [Act.put, zp1, zp2, zp3, i64_w, i32_w]
            rfl
           refine pure_ (i := 6) (N := some 33) (v := ?_) (a' := ?_) #[zT, zF, zF, zT, zT, zT, zT, zF, zF, zF, zF, zF, zF, zF] rfl rfl (any_of HT_.out (by kernel_rfl)) (fun _ _ _ h => h) (Or.inl ⟨by rfl, ?_⟩) ?_ ?_
           rotate_left
           ·intro w'
            go_simp
            with_reducible rfl
           rotate_left
           ·simp only [Act.put, zp1, zp2, zp3, i64_w, i32_w]
            rfl
           refine pure_ (i := 7) (N := some 34) (v := ?_) (a' := ?_) #[zT, zF, zF, zT, zT, zT, zT, zT, zF, zF, zF, zF, zF, zF] rfl rfl (any_of HT_.out (by kernel_rfl)) (fun _ _ _ h => h) (Or.inl ⟨by rfl, ?_⟩) ?_ ?_
           rotate_left
           ·intro w'
            go_simp
            with_reducible rfl
           rotate_left
           ·simp only [Act.put, zp1, zp2, zp3, i64_w, i32_w]
            rfl
           refine pure_ (i := 8) (N := some 35) (v := ?_) (a' := ?_) #[zT, zF, zF, zT, zT, zT, zT, zT, zT, zF, zF, zF, zF, zF] rfl rfl (any_of HT_.out (by kernel_rfl)) (fun _ _ _ h => h) (Or.inl ⟨by rfl, ?_⟩) ?_ ?_
           rotate_left
           ·intro w'
            go_simp
            with_reducible rfl
           rotate_left
           ·simp only [Act.put, zp1, zp2, zp3, i64_w, i32_w]
            rfl
           refine take_ (i := 1) (N := some 28) (v := ?_) (a' := ?_) #[zT, zT, zF, zT, zT, zT, zT, zT, zT, zF, zF, zF, zF, zF] rfl rfl (take_ofW HT_.out HW_.out (by kernel_rfl)) (fun _ _ _ h => h) (Or.inl ⟨by rfl, ?_⟩) hHeld ?_ ?_
           rotate_left
           ·rintro w' ⟨s0, s1, s2, s3, s4⟩
            go_simp
            with_reducible rfl
           rotate_left
           ·simp only [Act.put, zp1, zp2, zp3, i64_w, i32_w]
            rfl
           refine take_ (i := 2) (N := some 29) (v := ?_) (a' := ?_) #[zT, zT, zT, zT, zT, zT, zT, zT, zT, zF, zF, zF, zF, zF] rfl rfl (take_ofW HT_.out HW_.out (by kernel_rfl)) (fun _ _ _ h => h) (Or.inl ⟨by rfl, ?_⟩) hHeld ?_ ?_
           rotate_left
           ·rintro w' ⟨s0, s1, s2, s3, s4⟩
            go_simp
            with_reducible rfl
           rotate_left
           ·simp only [Act.put, zp1, zp2, zp3, i64_w, i32_w]
            rfl
           refine one_ (i := 9) (N := some 36) #[zT, zT, zT, zT, zT, zT, zT, zT, zT, zT, zF, zF, zF, zF] rfl rfl (one_of HT_.out (by kernel_rfl)) (by decide) (fun K hK => ?_)
           refine goes_ Try.func168 (by kernel_rfl) rfl #[.agg #[.int .i64 ((rd_T61 l0_0 x9_1).f0), .int .i64 ((rd_T61 l0_0 x9_1).f1), .int .i64 ((rd_T61 l0_0 x9_1).f2), .int .i64 ((rd_T61 l0_0 x9_1).f3)], .int .i64 0, .int .i64 (wrap64 (a1 - x8_1)), .int .i64 (wrap64 (a1 - x8_1))] (by rfl) rfl rfl (by (try simp only [zq1, zq2, zq3]); first | done | rfl | (simp only [List.length_drop, List.length_take]; rfl)) ?_
           with_reducible refine (spec_l2Slice.calls ((rd_T61 l0_0 x9_1).f0) ((rd_T61 l0_0 x9_1).f1) ((rd_T61 l0_0 x9_1).f2) ((rd_T61 l0_0 x9_1).f3) 0 (wrap64 (a1 - x8_1)) (wrap64 (a1 - x8_1)) t212 t213 t214 t215 _ A106.out).mono ?_
           rintro e w111 ⟨rfl, hb⟩
           refine ⟨_, rfl, ?_⟩
           replace HO_202000 := zrb HO_202000 hb
           replace HO_203000 := zrb HO_203000 hb
           replace BK192 := zb0 BK192 hb
           replace BK193 := zb0 BK193 hb
           replace BK194 := zb0 BK194 hb
           replace BK201 := zb0 BK201 hb
           replace BK202 := zb0 BK202 hb
           replace BK204 := zb0 BK204 hb
           replace HB := zhs HB hb
           (try clear hb)
           (try clear hb2)
           (try clear hk)
           (try clear hi)
           refine hK.out _ _ ⟨zc0 BK201 0 rfl, zc0 BK204 0 rfl, zc0 BK204 1 rfl, zc0 BK204 2 rfl, zc0 BK204 3 rfl⟩ (fun hHeld => ?_)
           clear hK K
           refine norm_ (a' := ?_) ?_ ?_
           rotate_left
           ·show Act.put _ (some 36) _ = _
            simp only [Act.put, zp1, zp2, zp3, i64_w, i32_w]
            rfl
           refine one_ (i := 10) (N := some 37) #[zT, zT, zT, zT, zT, zT, zT, zT, zT, zT, zT, zF, zF, zF] rfl rfl (one_of HT_.out (by kernel_rfl)) (by decide) (fun K hK => ?_)
           refine value_ (w1 := ?_) (v := ?_) (by rfl) rfl ?_ ?_
           rotate_left 2
           ·go_simp
            constructor
            ·rfl
            ·rfl
           refine hK.out _ _ ⟨(blk_cell (blk_alloc BK201.out _) 0).trans rfl, (blk_cell (blk_alloc BK204.out _) 0).trans rfl, (blk_cell (blk_alloc BK204.out _) 1).trans rfl, (blk_cell (blk_alloc BK204.out _) 2).trans rfl, (blk_cell (blk_alloc BK204.out _) 3).trans rfl⟩ (fun hHeld => ?_)
           clear hK K
           refine norm_ (a' := ?_) ?_ ?_
           rotate_left
           ·show Act.put _ (some 37) _ = _
            simp only [Act.put, zp1, zp2, zp3, i64_w, i32_w]
            rfl
           refine one_ (i := 11) (N := some 38) #[zT, zT, zT, zT, zT, zT, zT, zT, zT, zT, zT, zT, zF, zF] rfl rfl (one_of HT_.out (by kernel_rfl)) (by decide) (fun K hK => ?_)
           refine Kd.R_append_step k61 (w0 := w) w.heap.size (by rfl) (.tmp 28) (.tmp 37) 30 61 (.agg #[(.int .i64 0), (.int .i64 0), (.int .i64 0), (.int .i64 0)]) 32 rfl Try.underlying30 info61 rfl (by decide) (by omega) u202000 x202000_1 (⟨t212, t213, t214, t215⟩ : S61) [.int .i64 t212, .int .i64 t213, .int .i64 t214, .int .i64 t215] (fun k_ => some k_ ≠ (u203000 : Value).ownBlock ∧ k_ ≠ gb204) (fun _ => False) rfl rfl ?aP (fun _ hk => hk.elim) ?aF ?aO ?aB ?aS ?aL ?_
           (case aP => exact k61_mkM _ _ _ (⟨t212, t213, t214, t215⟩ : S61))
           (case aB => exact (zh0 HB))
           (case aF => exact (fun k_ hk => ⟨Kd.fresh' (Kd.R_lt (zr0 HO_203000)) k_ hk, Kd.freshB (g := gb204) (o := .cells #[.int .i64 ((rd_T61 l0_0 x9_1).f0), .int .i64 ((rd_T61 l0_0 x9_1).f1), .int .i64 ((rd_T61 l0_0 x9_1).f2), .int .i64 ((rd_T61 l0_0 x9_1).f3)] 61 (0, 0)) (zk0 BK204) k_ hk⟩))
           (case aO => exact (zr0 HO_202000))
           (case aS => exact (below_size (zh0 HB)))
           (case aL => have := LMc107.out; omega)
           intro v217 w112 ho hb hg hat
           rw [← Ny216.out] at ho
           have n0_ := Aside0.mk (Kd.R_after (ok := (fun k_ => k_ ≠ gb204)) (by (with_reducible repeat (first | apply Kd.R_alloc | apply Kd.R_drewN | apply Kd.R_drew)); exact Kd.R_mono HO_203000.out (fun _ hk => ⟨hk.2, hk.1⟩)) hg hat)
           have n1_ := Aside0.mk (blk_grown (g := gb192) (o := .cells #[.slice (some ad203) l0_0.length c0_0] 32 (0, 0)) (zk0 BK192) hg (Kd.R_ne HO_202000.out BK192.out (by decide)))
           have n2_ := Aside0.mk (blk_grown (g := gb193) (o := .cells #[.slice none 0 0] 32 (0, 0)) (zk0 BK193) hg (Kd.R_ne HO_202000.out BK193.out (by decide)))
           have n3_ := Aside0.mk (blk_grown (g := gb194) (o := .cells #[.slice none 0 0] 32 (0, 0)) (zk0 BK194) hg (Kd.R_ne HO_202000.out BK194.out (by decide)))
           have n4_ := Aside0.mk (blk_grown (g := gb201) (o := .cells #[u202000] 32 (0, 0)) (zk0 BK201) hg (Kd.R_ne HO_202000.out BK201.out (by decide)))
           have n5_ := Aside0.mk (blk_grown (g := gb202) (o := .cells #[u203000] 32 (0, 0)) (zk0 BK202) hg (Kd.R_ne HO_202000.out BK202.out (by decide)))
           have n6_ := Aside0.mk (blk_grown (g := gb204) (o := .cells #[.int .i64 ((rd_T61 l0_0 x9_1).f0), .int .i64 ((rd_T61 l0_0 x9_1).f1), .int .i64 ((rd_T61 l0_0 x9_1).f2), .int .i64 ((rd_T61 l0_0 x9_1).f3)] 61 (0, 0)) (zk0 BK204) hg (Kd.R_away HO_202000.out (fun _ hk => hk.2)))
           have n7_ := Aside0.mk (hb)
           have n8_ := Aside0.mk (ho)
           clear HO_203000
           clear BK192
           clear BK193
           clear BK194
           clear BK201
           clear BK202
           clear BK204
           clear HB
           clear HO_202000
           have HO_203000 := n0_
           have BK192 := n1_
           have BK193 := n2_
           have BK194 := n3_
           have BK201 := n4_
           have BK202 := n5_
           have BK204 := n6_
           have HB := n7_
           have HO218 := n8_
           clear n0_ n1_ n2_ n3_ n4_ n5_ n6_ n7_ n8_
           clear ho hb hg hat
           obtain ⟨Ao113, co113, eo113⟩ := Kd.R_slice HO218.out
           (first | subst eo113 | (injection eo113 with f1_ f2_ f3_; have f4_ := f1_.symm; have f5_ := f3_.symm; clear f1_ f2_ f3_; subst f4_; subst f5_))
           refine hK.out _ _ ⟨zc0 BK201 0 rfl, zc0 BK204 0 rfl, zc0 BK204 1 rfl, zc0 BK204 2 rfl, zc0 BK204 3 rfl⟩ (fun hHeld => ?_)
           clear hK K
           refine norm_ (a' := ?_) ?_ ?_
           rotate_left
           ·show Act.put _ (some 38) _ = _
            simp only [Act.put, zp1, zp2, zp3, i64_w, i32_w]
            rfl
           refine pure_ (i := 12) (N := some 39) (v := ?_) (a' := ?_) #[zT, zT, zT, zT, zT, zT, zT, zT, zT, zT, zT, zT, zT, zF] rfl rfl (any_of HT_.out (by kernel_rfl)) (fun _ _ _ h => h) (Or.inl ⟨by rfl, ?_⟩) ?_ ?_
           rotate_left
           ·intro w'
            go_simp
            with_reducible rfl
           rotate_left
           ·simp only [Act.put, zp1, zp2, zp3, i64_w, i32_w]
            rfl
           refine last_ (i := 13) (N := none) #[zT, zT, zT, zT, zT, zT, zT, zT, zT, zT, zT, zT, zT, zT] rfl rfl (one_of HT_.out (by kernel_rfl)) (by decide) (fun K hK => ?_)
           have hs114 : w112.cell? ⟨gb201, 0, none⟩ = some (u202000) := zc0 BK201 0 rfl
           have hfs114 := blk_frozen BK201.out 0
           have hns114_0 := NB192_201.out
           have hns114_1 := NB193_201.out
           have hns114_2 := NB194_201.out
           have hns114_4 := NB202_201.out
           have hns114_5 := NB204_201.out
           have hms114_0 := NB201_192.out
           have hms114_1 := NB201_193.out
           have hms114_2 := NB201_194.out
           have hms114_4 := NB201_202.out
           have hms114_5 := NB201_204.out
           refine skip_ (w1 := ?_) (by rfl) rfl ?_ ?_
           rotate_left
           ·go_simp
            rfl
           refine hK.out _ _ ?_
           clear hK K
           refine done_ (done_of HT_.out (by kernel_rfl)) ?_
           try go_wp2
           have n0_ : Aside0 (Kd.R k61 61 (w112.setCell ⟨gb201, 0, none⟩ (.slice Ao113 y216.length co113)) w.heap.size (fun k_ => some k_ ≠ (.slice Ao113 y216.length co113 : Value).ownBlock ∧ k_ ≠ gb204) u203000 x203000_1) := ⟨by (with_reducible repeat (first | apply Kd.R_alloc | apply Kd.R_drewN | apply Kd.R_drew)); exact Kd.R_mono (Kd.R_far (p := ⟨gb201, 0, none⟩) (Kd.R_types HO_203000.out BK201.out (by decide)) (fun _ hk => hk.2) (.slice Ao113 y216.length co113)) (fun _ hk => ⟨hk.1.2, hk.1.1⟩)⟩
           have n1_ : Aside0 (Kd.R k61 61 (w112.setCell ⟨gb201, 0, none⟩ (.slice Ao113 y216.length co113)) w.heap.size (fun k_ => some k_ ≠ (u203000 : Value).ownBlock ∧ k_ ≠ gb204) (.slice Ao113 y216.length co113) y216) := ⟨by (with_reducible repeat (first | apply Kd.R_alloc | apply Kd.R_drewN | apply Kd.R_drew)); exact Kd.R_mono (Kd.R_far (p := ⟨gb201, 0, none⟩) (Kd.R_types HO218.out BK201.out (by decide)) (fun _ hk => hk.2) (.slice Ao113 y216.length co113)) (fun _ hk => ⟨hk.1.1, hk.1.2⟩)⟩
           have n2_ : Aside0 ((w112.setCell ⟨gb201, 0, none⟩ (.slice Ao113 y216.length co113)).heap[gb192]? = some (.cells #[.slice (some ad203) l0_0.length c0_0] 32 (0, 0))) := ⟨by (with_reducible repeat (first | refine blk_drewN ?_ _ | refine blk_drew ?_ | refine blk_alloc ?_ _)); refine blk_far ?_ NB192_201.out _; (with_reducible repeat (first | refine blk_drewN ?_ _ | refine blk_drew ?_ | refine blk_alloc ?_ _)); exact BK192.out⟩
           have n3_ : Aside0 ((w112.setCell ⟨gb201, 0, none⟩ (.slice Ao113 y216.length co113)).heap[gb193]? = some (.cells #[.slice none 0 0] 32 (0, 0))) := ⟨by (with_reducible repeat (first | refine blk_drewN ?_ _ | refine blk_drew ?_ | refine blk_alloc ?_ _)); refine blk_far ?_ NB193_201.out _; (with_reducible repeat (first | refine blk_drewN ?_ _ | refine blk_drew ?_ | refine blk_alloc ?_ _)); exact BK193.out⟩
           have n4_ : Aside0 ((w112.setCell ⟨gb201, 0, none⟩ (.slice Ao113 y216.length co113)).heap[gb194]? = some (.cells #[.slice none 0 0] 32 (0, 0))) := ⟨by (with_reducible repeat (first | refine blk_drewN ?_ _ | refine blk_drew ?_ | refine blk_alloc ?_ _)); refine blk_far ?_ NB194_201.out _; (with_reducible repeat (first | refine blk_drewN ?_ _ | refine blk_drew ?_ | refine blk_alloc ?_ _)); exact BK194.out⟩
           have n5_ : Aside0 ((w112.setCell ⟨gb201, 0, none⟩ (.slice Ao113 y216.length co113)).heap[gb201]? = some (.cells #[.slice Ao113 y216.length co113] 32 (0, 0))) := ⟨by (with_reducible repeat (first | refine blk_drewN ?_ _ | refine blk_drew ?_ | refine blk_alloc ?_ _)); refine blk_put (cs := #[u202000]) ?_ 0 _ rfl; (with_reducible repeat (first | refine blk_drewN ?_ _ | refine blk_drew ?_ | refine blk_alloc ?_ _)); exact BK201.out⟩
           have n6_ : Aside0 ((w112.setCell ⟨gb201, 0, none⟩ (.slice Ao113 y216.length co113)).heap[gb202]? = some (.cells #[u203000] 32 (0, 0))) := ⟨by (with_reducible repeat (first | refine blk_drewN ?_ _ | refine blk_drew ?_ | refine blk_alloc ?_ _)); refine blk_far ?_ NB202_201.out _; (with_reducible repeat (first | refine blk_drewN ?_ _ | refine blk_drew ?_ | refine blk_alloc ?_ _)); exact BK202.out⟩
           have n7_ : Aside0 ((w112.setCell ⟨gb201, 0, none⟩ (.slice Ao113 y216.length co113)).heap[gb204]? = some (.cells #[.int .i64 ((rd_T61 l0_0 x9_1).f0), .int .i64 ((rd_T61 l0_0 x9_1).f1), .int .i64 ((rd_T61 l0_0 x9_1).f2), .int .i64 ((rd_T61 l0_0 x9_1).f3)] 61 (0, 0))) := ⟨by (with_reducible repeat (first | refine blk_drewN ?_ _ | refine blk_drew ?_ | refine blk_alloc ?_ _)); refine blk_far ?_ NB204_201.out _; (with_reducible repeat (first | refine blk_drewN ?_ _ | refine blk_drew ?_ | refine blk_alloc ?_ _)); exact BK204.out⟩
           have n8_ : Aside0 (Below w.heap.size w (w112.setCell ⟨gb201, 0, none⟩ (.slice Ao113 y216.length co113))) := ⟨by repeat (first | exact zh0 HB | refine below_set ?_ GE192.out | refine below_set ?_ GE193.out | refine below_set ?_ GE194.out | refine below_set ?_ GE201.out | refine below_set ?_ GE202.out | refine below_set ?_ GE204.out)⟩
           (try clear HO_203000)
           (try clear HO218)
           (try clear BK192)
           (try clear BK193)
           (try clear BK194)
           (try clear BK201)
           (try clear BK202)
           (try clear BK204)
           (try clear HB)
           generalize (w112.setCell ⟨gb201, 0, none⟩ (.slice Ao113 y216.length co113)) = w115 at n0_ n1_ n2_ n3_ n4_ n5_ n6_ n7_ n8_ ⊢
           have HO_203000 := n0_
           have HO218 := n1_
           have BK192 := n2_
           have BK193 := n3_
           have BK194 := n4_
           have BK201 := n5_
           have BK202 := n6_
           have BK204 := n7_
           have HB := n8_
           clear n0_ n1_ n2_ n3_ n4_ n5_ n6_ n7_ n8_
           replace HO_203000 := Aside0.mk (Kd.R_drew HO_203000.out)
           replace HO218 := Aside0.mk (Kd.R_drew HO218.out)
           replace BK192 := Aside0.mk (blk_drew BK192.out)
           replace BK193 := Aside0.mk (blk_drew BK193.out)
           replace BK194 := Aside0.mk (blk_drew BK194.out)
           replace BK201 := Aside0.mk (blk_drew BK201.out)
           replace BK202 := Aside0.mk (blk_drew BK202.out)
           replace BK204 := Aside0.mk (blk_drew BK204.out)
           replace HB := Aside0.mk (below_drew1 HB.out)
           refine start_ (n := 15) (S := fun w' => w'.cell? ⟨gb202, 0, none⟩ = some (u203000) ∧ w'.cell? ⟨gb204, 0, none⟩ = some (.int .i64 ((rd_T61 l0_0 x9_1).f0)) ∧ w'.cell? ⟨gb204, 1, none⟩ = some (.int .i64 ((rd_T61 l0_0 x9_1).f1)) ∧ w'.cell? ⟨gb204, 2, none⟩ = some (.int .i64 ((rd_T61 l0_0 x9_1).f2)) ∧ w'.cell? ⟨gb204, 3, none⟩ = some (.int .i64 ((rd_T61 l0_0 x9_1).f3))) (ds := [14]) #[zF, zF, zF, zF, zF, zF, zF, zF, zF, zF, zF, zF, zF, zF, zF] (by kernel_rfl) rfl rfl ⟨zc0 BK202 0 rfl, zc0 BK204 0 rfl, zc0 BK204 1 rfl, zc0 BK204 2 rfl, zc0 BK204 3 rfl⟩ (fun hHeld => ?_); refine with_tabW spec_l7Split.tab8 spec_l7Split.bits8 (fun HT_ HW_ => ?_)
           generalize w115.drew = w116 at HO_203000 HO218 BK192 BK193 BK194 BK201 BK202 BK204 HB hHeld ⊢
           refine pure_ (i := 0) (N := some 40) (v := ?_) (a' := ?_) #[zT, zF, zF, zF, zF, zF, zF, zF, zF, zF, zF, zF, zF, zF, zF] rfl rfl (any_of HT_.out (by kernel_rfl)) (fun _ _ _ h => h) (Or.inl ⟨by rfl, ?_⟩) ?_ ?_
           rotate_left
           ·intro w'
            go_simp
            with_reducible rfl
           rotate_left
           ·simp only [Act.put, zp1, zp2, zp3, i64_w, i32_w]
            rfl
           refine pure_ (i := 3) (N := some 43) (v := ?_) (a' := ?_) #[zT, zF, zF, zT, zF, zF, zF, zF, zF, zF, zF, zF, zF, zF, zF] rfl rfl (any_of HT_.out (by kernel_rfl)) (fun _ _ _ h => h) (Or.inl ⟨by rfl, ?_⟩) ?_ ?_
           rotate_left
           ·intro w'
            go_simp
            with_reducible rfl
           rotate_left
           ·simp only [Act.put, zp1, zp2, zp3, i64_w, i32_w]
            rfl
           refine pure_ (i := 4) (N := some 44) (v := ?_) (a' := ?_) #[zT, zF, zF, zT, zT, zF, zF, zF, zF, zF, zF, zF, zF, zF, zF] rfl rfl (any_of HT_.out (by kernel_rfl)) (fun _ _ _ h => h) (Or.inl ⟨by rfl, ?_⟩) ?_ ?_
           rotate_left
           ·intro w'
            go_simp
            with_reducible rfl
           rotate_left
           ·simp only [Act.put, zp1, zp2, zp3, i64_w, i32_w]
            rfl
           refine pure_ (i := 5) (N := some 45) (v := ?_) (a' := ?_) #[zT, zF, zF, zT, zT, zT, zF, zF, zF, zF, zF, zF, zF, zF, zF] rfl rfl (any_of HT_.out (by kernel_rfl)) (fun _ _ _ h => h) (Or.inl ⟨by rfl, ?_⟩) ?_ ?_
           rotate_left
           ·intro w'
            go_simp
            with_reducible rfl
           rotate_left
           ·simp only [Act.put, zp1, zp2, zp3, i64_w, i32_w]
            rfl
           refine pure_ (i := 6) (N := some 46) (v := ?_) (a' := ?_) #[zT, zF, zF, zT, zT, zT, zT, zF, zF, zF, zF, zF, zF, zF, zF] rfl rfl (any_of HT_.out (by kernel_rfl)) (fun _ _ _ h => h) (Or.inl ⟨by rfl, ?_⟩) ?_ ?_
           rotate_left
           ·intro w'
            go_simp
            with_reducible rfl
           rotate_left
           ·simp only [Act.put, zp1, zp2, zp3, i64_w, i32_w]
            rfl
           refine pure_ (i := 8) (N := some 48) (v := ?_) (a' := ?_) #[zT, zF, zF, zT, zT, zT, zT, zF, zT, zF, zF, zF, zF, zF, zF] rfl rfl (any_of HT_.out (by kernel_rfl)) (fun _ _ _ h => h) (Or.inl ⟨by rfl, ?_⟩) ?_ ?_
           rotate_left
           ·intro w'
            go_simp
            with_reducible rfl
           rotate_left
           ·simp only [Act.put, zp1, zp2, zp3, i64_w, i32_w]
            rfl
           refine take_ (i := 1) (N := some 41) (v := ?_) (a' := ?_) #[zT, zT, zF, zT, zT, zT, zT, zF, zT, zF, zF, zF, zF, zF, zF] rfl rfl (take_ofW HT_.out HW_.out (by kernel_rfl)) (fun _ _ _ h => h) (Or.inl ⟨by rfl, ?_⟩) hHeld ?_ ?_
           rotate_left
           ·rintro w' ⟨s0, s1, s2, s3, s4⟩
            go_simp
            with_reducible rfl
           rotate_left
           ·simp only [Act.put, zp1, zp2, zp3, i64_w, i32_w]
            rfl
           refine take_ (i := 2) (N := some 42) (v := ?_) (a' := ?_) #[zT, zT, zT, zT, zT, zT, zT, zF, zT, zF, zF, zF, zF, zF, zF] rfl rfl (take_ofW HT_.out HW_.out (by kernel_rfl)) (fun _ _ _ h => h) (Or.inl ⟨by rfl, ?_⟩) hHeld ?_ ?_
           rotate_left
           ·rintro w' ⟨s0, s1, s2, s3, s4⟩
            go_simp
            with_reducible rfl
           rotate_left
           ·simp only [Act.put, zp1, zp2, zp3, i64_w, i32_w]
            rfl
           refine take_ (i := 7) (N := some 47) (v := ?_) (a' := ?_) #[zT, zT, zT, zT, zT, zT, zT, zT, zT, zF, zF, zF, zF, zF, zF] rfl rfl (take_ofW HT_.out HW_.out (by kernel_rfl)) (fun _ _ _ h => h) (Or.inl ⟨by rfl, ?_⟩) hHeld ?_ ?_
           rotate_left
           ·rintro w' ⟨s0, s1, s2, s3, s4⟩
            go_simp
            with_reducible rfl
           rotate_left
           ·simp only [Act.put, zp1, zp2, zp3, i64_w, i32_w]
            rfl
           refine take_ (i := 9) (N := some 49) (v := ?_) (a' := ?_) #[zT, zT, zT, zT, zT, zT, zT, zT, zT, zT, zF, zF, zF, zF, zF] rfl rfl (take_ofW HT_.out HW_.out (by kernel_rfl)) (fun _ _ _ h => h) (Or.inl ⟨by rfl, ?_⟩) hHeld ?_ ?_
           rotate_left
           ·rintro w' ⟨s0, s1, s2, s3, s4⟩
            go_simp
            with_reducible rfl
           rotate_left
           ·simp only [Act.put, zp1, zp2, zp3, i64_w, i32_w]
            rfl
           refine one_ (i := 10) (N := some 50) #[zT, zT, zT, zT, zT, zT, zT, zT, zT, zT, zT, zF, zF, zF, zF] rfl rfl (one_of HT_.out (by kernel_rfl)) (by decide) (fun K hK => ?_)
           refine goes_ Try.func168 (by kernel_rfl) rfl #[.agg #[.int .i64 ((rd_T61 l0_0 x9_1).f0), .int .i64 ((rd_T61 l0_0 x9_1).f1), .int .i64 ((rd_T61 l0_0 x9_1).f2), .int .i64 ((rd_T61 l0_0 x9_1).f3)], .int .i64 (wrap64 (a1 - x8_1)), .int .i64 ((rd_T61 l0_0 x9_1).f2), .int .i64 ((rd_T61 l0_0 x9_1).f3)] (by rfl) rfl rfl (by (try simp only [zq1, zq2, zq3]); first | done | rfl | (simp only [List.length_drop, List.length_take]; rfl)) ?_
           with_reducible refine (spec_l2Slice.calls ((rd_T61 l0_0 x9_1).f0) ((rd_T61 l0_0 x9_1).f1) ((rd_T61 l0_0 x9_1).f2) ((rd_T61 l0_0 x9_1).f3) (wrap64 (a1 - x8_1)) ((rd_T61 l0_0 x9_1).f2) ((rd_T61 l0_0 x9_1).f3) t219 t220 t221 t222 _ A108.out).mono ?_
           rintro e w117 ⟨rfl, hb⟩
           refine ⟨_, rfl, ?_⟩
           replace HO_203000 := zrb HO_203000 hb
           replace HO218 := zrb HO218 hb
           replace BK192 := zb0 BK192 hb
           replace BK193 := zb0 BK193 hb
           replace BK194 := zb0 BK194 hb
           replace BK201 := zb0 BK201 hb
           replace BK202 := zb0 BK202 hb
           replace BK204 := zb0 BK204 hb
           replace HB := zhs HB hb
           (try clear hb)
           (try clear hb2)
           (try clear hk)
           (try clear hi)
           refine hK.out _ _ ⟨zc0 BK202 0 rfl, zc0 BK204 0 rfl, zc0 BK204 1 rfl, zc0 BK204 2 rfl, zc0 BK204 3 rfl⟩ (fun hHeld => ?_)
           clear hK K
           refine norm_ (a' := ?_) ?_ ?_
           rotate_left
           ·show Act.put _ (some 50) _ = _
            simp only [Act.put, zp1, zp2, zp3, i64_w, i32_w]
            rfl
           refine one_ (i := 11) (N := some 51) #[zT, zT, zT, zT, zT, zT, zT, zT, zT, zT, zT, zT, zF, zF, zF] rfl rfl (one_of HT_.out (by kernel_rfl)) (by decide) (fun K hK => ?_)
           refine value_ (w1 := ?_) (v := ?_) (by rfl) rfl ?_ ?_
           rotate_left 2
           ·go_simp
            constructor
            ·rfl
            ·rfl
           refine hK.out _ _ ⟨(blk_cell (blk_alloc BK202.out _) 0).trans rfl, (blk_cell (blk_alloc BK204.out _) 0).trans rfl, (blk_cell (blk_alloc BK204.out _) 1).trans rfl, (blk_cell (blk_alloc BK204.out _) 2).trans rfl, (blk_cell (blk_alloc BK204.out _) 3).trans rfl⟩ (fun hHeld => ?_)
           clear hK K
           refine norm_ (a' := ?_) ?_ ?_
           rotate_left
           ·show Act.put _ (some 51) _ = _
            simp only [Act.put, zp1, zp2, zp3, i64_w, i32_w]
            rfl
           refine one_ (i := 12) (N := some 52) #[zT, zT, zT, zT, zT, zT, zT, zT, zT, zT, zT, zT, zT, zF, zF] rfl rfl (one_of HT_.out (by kernel_rfl)) (by decide) (fun K hK => ?_)
           refine Kd.R_append_step k61 (w0 := w) w.heap.size (by rfl) (.tmp 41) (.tmp 51) 30 61 (.agg #[(.int .i64 0), (.int .i64 0), (.int .i64 0), (.int .i64 0)]) 32 rfl Try.underlying30 info61 rfl (by decide) (by omega) u203000 x203000_1 (⟨t219, t220, t221, t222⟩ : S61) [.int .i64 t219, .int .i64 t220, .int .i64 t221, .int .i64 t222] (fun k_ => some k_ ≠ (.slice Ao113 y216.length co113 : Value).ownBlock ∧ k_ ≠ gb204) (fun _ => False) rfl rfl ?aP (fun _ hk => hk.elim) ?aF ?aO ?aB ?aS ?aL ?_
           (case aP => exact k61_mkM _ _ _ (⟨t219, t220, t221, t222⟩ : S61))
           (case aB => exact (zh0 HB))
           (case aF => exact (fun k_ hk => ⟨Kd.fresh' (Kd.R_lt (zr0 HO218)) k_ hk, Kd.freshB (g := gb204) (o := .cells #[.int .i64 ((rd_T61 l0_0 x9_1).f0), .int .i64 ((rd_T61 l0_0 x9_1).f1), .int .i64 ((rd_T61 l0_0 x9_1).f2), .int .i64 ((rd_T61 l0_0 x9_1).f3)] 61 (0, 0)) (zk0 BK204) k_ hk⟩))
           (case aO => exact (zr0 HO_203000))
           (case aS => exact (below_size (zh0 HB)))
           (case aL => have := LMc109.out; omega)
           intro v224 w118 ho hb hg hat
           rw [← Ny223.out] at ho
           have n0_ := Aside0.mk (blk_grown (g := gb192) (o := .cells #[.slice (some ad203) l0_0.length c0_0] 32 (0, 0)) (zk0 BK192) hg (Kd.R_ne HO_203000.out BK192.out (by decide)))
           have n1_ := Aside0.mk (blk_grown (g := gb193) (o := .cells #[.slice none 0 0] 32 (0, 0)) (zk0 BK193) hg (Kd.R_ne HO_203000.out BK193.out (by decide)))
           have n2_ := Aside0.mk (blk_grown (g := gb194) (o := .cells #[.slice none 0 0] 32 (0, 0)) (zk0 BK194) hg (Kd.R_ne HO_203000.out BK194.out (by decide)))
           have n3_ := Aside0.mk (blk_grown (g := gb201) (o := .cells #[.slice Ao113 y216.length co113] 32 (0, 0)) (zk0 BK201) hg (Kd.R_ne HO_203000.out BK201.out (by decide)))
           have n4_ := Aside0.mk (blk_grown (g := gb202) (o := .cells #[u203000] 32 (0, 0)) (zk0 BK202) hg (Kd.R_ne HO_203000.out BK202.out (by decide)))
           have n5_ := Aside0.mk (blk_grown (g := gb204) (o := .cells #[.int .i64 ((rd_T61 l0_0 x9_1).f0), .int .i64 ((rd_T61 l0_0 x9_1).f1), .int .i64 ((rd_T61 l0_0 x9_1).f2), .int .i64 ((rd_T61 l0_0 x9_1).f3)] 61 (0, 0)) (zk0 BK204) hg (Kd.R_away HO_203000.out (fun _ hk => hk.2)))
           have n6_ := Aside0.mk (Kd.R_after (ok := (fun k_ => k_ ≠ gb204)) (by (with_reducible repeat (first | apply Kd.R_alloc | apply Kd.R_drewN | apply Kd.R_drew)); exact Kd.R_mono HO218.out (fun _ hk => ⟨hk.2, hk.1⟩)) hg hat)
           have n7_ := Aside0.mk (hb)
           have n8_ := Aside0.mk (ho)
           clear BK192
           clear BK193
           clear BK194
           clear BK201
           clear BK202
           clear BK204
           clear HO218
           clear HB
           clear HO_203000
           have BK192 := n0_
           have BK193 := n1_
           have BK194 := n2_
           have BK201 := n3_
           have BK202 := n4_
           have BK204 := n5_
           have HO218 := n6_
           have HB := n7_
           have HO225 := n8_
           clear n0_ n1_ n2_ n3_ n4_ n5_ n6_ n7_ n8_
           clear ho hb hg hat
           obtain ⟨Ao119, co119, eo119⟩ := Kd.R_slice HO225.out
           (first | subst eo119 | (injection eo119 with f1_ f2_ f3_; have f4_ := f1_.symm; have f5_ := f3_.symm; clear f1_ f2_ f3_; subst f4_; subst f5_))
           refine hK.out _ _ ⟨zc0 BK202 0 rfl, zc0 BK204 0 rfl, zc0 BK204 1 rfl, zc0 BK204 2 rfl, zc0 BK204 3 rfl⟩ (fun hHeld => ?_)
           clear hK K
           refine norm_ (a' := ?_) ?_ ?_
           rotate_left
           ·show Act.put _ (some 52) _ = _
            simp only [Act.put, zp1, zp2, zp3, i64_w, i32_w]
            rfl
           refine pure_ (i := 13) (N := some 53) (v := ?_) (a' := ?_) #[zT, zT, zT, zT, zT, zT, zT, zT, zT, zT, zT, zT, zT, zT, zF] rfl rfl (any_of HT_.out (by kernel_rfl)) (fun _ _ _ h => h) (Or.inl ⟨by rfl, ?_⟩) ?_ ?_
           rotate_left
           ·intro w'
            go_simp
            with_reducible rfl
           rotate_left
           ·simp only [Act.put, zp1, zp2, zp3, i64_w, i32_w]
            rfl
           refine last_ (i := 14) (N := none) #[zT, zT, zT, zT, zT, zT, zT, zT, zT, zT, zT, zT, zT, zT, zT] rfl rfl (one_of HT_.out (by kernel_rfl)) (by decide) (fun K hK => ?_)
           have hs120 : w118.cell? ⟨gb202, 0, none⟩ = some (u203000) := zc0 BK202 0 rfl
           have hfs120 := blk_frozen BK202.out 0
           have hns120_0 := NB192_202.out
           have hns120_1 := NB193_202.out
           have hns120_2 := NB194_202.out
           have hns120_3 := NB201_202.out
           have hns120_5 := NB204_202.out
           have hms120_0 := NB202_192.out
           have hms120_1 := NB202_193.out
           have hms120_2 := NB202_194.out
           have hms120_3 := NB202_201.out
           have hms120_5 := NB202_204.out
           refine skip_ (w1 := ?_) (by rfl) rfl ?_ ?_
           rotate_left
           ·go_simp
            rfl
           refine hK.out _ _ ?_
           clear hK K
           refine done_ (done_of HT_.out (by kernel_rfl)) ?_
           have hnb121 := NB204_192.out
           have hnc121 := NB192_204.out
           have hnb122 := NB204_193.out
           have hnc122 := NB193_204.out
           have hnb123 := NB204_194.out
           have hnc123 := NB194_204.out
           have hnb124 := NB204_201.out
           have hnc124 := NB201_204.out
           have hnb125 := NB204_202.out
           have hnc125 := NB202_204.out
           have hcz126_0 := zc0 BK204 0 rfl
           have hcz126_1 := zc0 BK204 1 rfl
           have hcz126_2 := zc0 BK204 2 rfl
           have hcz126_3 := zc0 BK204 3 rfl
           have hfz126_0 := blk_frozen BK204.out 0
           have hfz126_1 := blk_frozen BK204.out 1
           have hfz126_2 := blk_frozen BK204.out 2
           have hfz126_3 := blk_frozen BK204.out 3
           try go_wp2
           go_roundg kj24
           case measure => have := HK1.out; have := HJ24.out; omega
           case rel => exact ⟨(wrap64 (x8_1 + ((rd_T61 l0_0 x9_1).f2))), (wrap64 (x9_1 + 1)), (y216), (y223), (.slice Ao113 y216.length co113), (.slice Ao119 y223.length co119), (by first | rfl | (simp; done) | (simp [*]; done)), (by first | rfl | (simp; done) | (simp [*]; done)), H', ⟨by have := HK1.out; have := HJ24.out; omega⟩, ⟨by (with_reducible repeat (first | apply Kd.R_alloc | apply Kd.R_drewN | apply Kd.R_drew)); exact Kd.R_mono (Kd.R_far (p := ⟨gb202, 0, none⟩) (Kd.R_types HO218.out BK202.out (by decide)) (fun _ hk => hk.2) (.slice Ao119 y223.length co119)) (fun _ hk => hk.1.2)⟩, ⟨by (with_reducible repeat (first | apply Kd.R_alloc | apply Kd.R_drewN | apply Kd.R_drew)); exact Kd.R_mono (Kd.R_far (p := ⟨gb202, 0, none⟩) (Kd.R_types HO225.out BK202.out (by decide)) (fun _ hk => hk.2) (.slice Ao119 y223.length co119)) (fun _ hk => hk.1.1)⟩, ⟨by (with_reducible repeat (first | refine blk_drewN ?_ _ | refine blk_drew ?_ | refine blk_alloc ?_ _)); refine blk_far ?_ NB192_202.out _; (with_reducible repeat (first | refine blk_drewN ?_ _ | refine blk_drew ?_ | refine blk_alloc ?_ _)); exact BK192.out⟩, ⟨by (with_reducible repeat (first | refine blk_drewN ?_ _ | refine blk_drew ?_ | refine blk_alloc ?_ _)); refine blk_far ?_ NB193_202.out _; (with_reducible repeat (first | refine blk_drewN ?_ _ | refine blk_drew ?_ | refine blk_alloc ?_ _)); exact BK193.out⟩, ⟨by (with_reducible repeat (first | refine blk_drewN ?_ _ | refine blk_drew ?_ | refine blk_alloc ?_ _)); refine blk_far ?_ NB194_202.out _; (with_reducible repeat (first | refine blk_drewN ?_ _ | refine blk_drew ?_ | refine blk_alloc ?_ _)); exact BK194.out⟩, ⟨by (with_reducible repeat (first | refine blk_drewN ?_ _ | refine blk_drew ?_ | refine blk_alloc ?_ _)); refine blk_far ?_ NB201_202.out _; (with_reducible repeat (first | refine blk_drewN ?_ _ | refine blk_drew ?_ | refine blk_alloc ?_ _)); exact BK201.out⟩, ⟨by (with_reducible repeat (first | refine blk_drewN ?_ _ | refine blk_drew ?_ | refine blk_alloc ?_ _)); refine blk_put (cs := #[u203000]) ?_ 0 _ rfl; (with_reducible repeat (first | refine blk_drewN ?_ _ | refine blk_drew ?_ | refine blk_alloc ?_ _)); exact BK202.out⟩, ⟨by repeat (first | exact zh0 HB | refine below_set ?_ GE192.out | refine below_set ?_ GE193.out | refine below_set ?_ GE194.out | refine below_set ?_ GE201.out | refine below_set ?_ GE202.out | refine below_set ?_ GE204.out)⟩⟩
          ·rw [if_neg c109] at H
           exact absurd H (by simp)
         ·rw [if_neg c107] at H
          exact absurd H (by simp)
    ·rw [if_neg c24] at H
     exact absurd H (by simp)
   ·rw [if_neg c23] at H
    have c23b0 : decide (x9_1 < (l0_0.length : Int)) = false := decide_eq_false c23
    clear c23
    simp only [Option.some.injEq, Prod.mk.injEq] at H
    obtain ⟨rfl, rfl⟩ := H
    have hnb127 := NB192_193.out
    have hnc127 := NB193_192.out
    have hnb128 := NB192_194.out
    have hnc128 := NB194_192.out
    have hnb129 := NB192_201.out
    have hnc129 := NB201_192.out
    have hnb130 := NB192_202.out
    have hnc130 := NB202_192.out
    have hcz131_0 := zc0 BK192 0 rfl
    have hfz131_0 := blk_frozen BK192.out 0
    try go_wp2
    replace HO_202000 := Aside0.mk (Kd.R_drew HO_202000.out)
    replace HO_203000 := Aside0.mk (Kd.R_drew HO_203000.out)
    replace BK192 := Aside0.mk (blk_drew BK192.out)
    replace BK193 := Aside0.mk (blk_drew BK193.out)
    replace BK194 := Aside0.mk (blk_drew BK194.out)
    replace BK201 := Aside0.mk (blk_drew BK201.out)
    replace BK202 := Aside0.mk (blk_drew BK202.out)
    replace HB := Aside0.mk (below_drew1 HB.out)
    obtain ⟨Ao133, co133, eo133⟩ := Kd.R_slice HO_202000.out
    (first | subst eo133 | (injection eo133 with f1_ f2_ f3_; have f4_ := f1_.symm; have f5_ := f3_.symm; clear f1_ f2_ f3_; subst f4_; subst f5_))
    obtain ⟨Ao135, co135, eo135⟩ := Kd.R_slice HO_203000.out
    (first | subst eo135 | (injection eo135 with f1_ f2_ f3_; have f4_ := f1_.symm; have f5_ := f3_.symm; clear f1_ f2_ f3_; subst f4_; subst f5_))
    refine start_ (n := 4) (S := fun w' => w'.cell? ⟨gb201, 0, none⟩ = some (.slice Ao133 x202000_1.length co133) ∧ w'.cell? ⟨gb202, 0, none⟩ = some (.slice Ao135 x203000_1.length co135)) (ds := []) #[zF, zF, zF, zF] (by kernel_rfl) rfl rfl ⟨zc0 BK201 0 rfl, zc0 BK202 0 rfl⟩ (fun hHeld => ?_)
    generalize wr.drew = w132 at HO_202000 HO_203000 BK192 BK193 BK194 BK201 BK202 HB hHeld ⊢
    refine take_ (i := 0) (N := some 97) (v := ?_) (a' := ?_) #[zT, zF, zF, zF] rfl rfl (by kernel_rfl) (fun _ _ _ h => h) (Or.inl ⟨by rfl, ?_⟩) hHeld ?_ ?_
    rotate_left
    ·rintro w' ⟨s0, s1⟩
     go_simp
     with_reducible rfl
    rotate_left
    ·simp only [Act.put, zp1, zp2, zp3, i64_w, i32_w]
     rfl
    refine take_ (i := 1) (N := some 98) (v := ?_) (a' := ?_) #[zT, zT, zF, zF] rfl rfl (by kernel_rfl) (fun _ _ _ h => h) (Or.inl ⟨by rfl, ?_⟩) hHeld ?_ ?_
    rotate_left
    ·rintro w' ⟨s0, s1⟩
     go_simp
     with_reducible rfl
    rotate_left
    ·simp only [Act.put, zp1, zp2, zp3, i64_w, i32_w]
     rfl
    refine one_ (i := 2) (N := none) #[zT, zT, zT, zF] rfl rfl (by kernel_rfl) (by decide) (fun K hK => ?_)
    have hs134 : w132.cell? ⟨gb193, 0, none⟩ = some (.slice none 0 0) := zc0 BK193 0 rfl
    have hfs134 := blk_frozen BK193.out 0
    have hns134_0 := NB192_193.out
    have hns134_2 := NB194_193.out
    have hns134_3 := NB201_193.out
    have hns134_4 := NB202_193.out
    have hms134_0 := NB193_192.out
    have hms134_2 := NB193_194.out
    have hms134_3 := NB193_201.out
    have hms134_4 := NB193_202.out
    refine skip_ (w1 := ?_) (by rfl) rfl ?_ ?_
    rotate_left
    ·go_simp
     rfl
    refine hK.out _ _ ⟨((zfar NB201_193).trans (hHeld.1)), ((zfar NB202_193).trans (hHeld.2))⟩ (fun hHeld => ?_)
    clear hK K
    refine one_ (i := 3) (N := none) #[zT, zT, zT, zT] rfl rfl (by kernel_rfl) (by decide) (fun K hK => ?_)
    have hs136 : w132.cell? ⟨gb194, 0, none⟩ = some (.slice none 0 0) := zc0 BK194 0 rfl
    have hfs136 := blk_frozen BK194.out 0
    have hns136_0 := NB192_194.out
    have hns136_1 := NB193_194.out
    have hns136_3 := NB201_194.out
    have hns136_4 := NB202_194.out
    have hms136_0 := NB194_192.out
    have hms136_1 := NB194_193.out
    have hms136_3 := NB194_201.out
    have hms136_4 := NB194_202.out
    refine skip_ (w1 := ?_) (by rfl) rfl ?_ ?_
    rotate_left
    ·go_simp
     rfl
    refine hK.out _ _ ⟨((zfar NB201_194).trans (hHeld.1)), ((zfar NB202_194).trans (hHeld.2))⟩ (fun hHeld => ?_)
    clear hK K
    refine done_ (by kernel_rfl) ?_
    try go_wp2
    refine bodyPost_ret (results_cc rfl _ _ gb193 gb194 32 32 #[.slice Ao133 x202000_1.length co133] #[.slice Ao135 x203000_1.length co135] (0, 0) (0, 0) _ _ rfl (by (with_reducible repeat (first | refine blk_drewN ?_ _ | refine blk_drew ?_ | refine blk_alloc ?_ _)); refine blk_far ?_ NB193_194.out _; refine blk_put (cs := #[.slice none 0 0]) ?_ 0 _ rfl; (with_reducible repeat (first | refine blk_drewN ?_ _ | refine blk_drew ?_ | refine blk_alloc ?_ _)); exact BK193.out) Try.underlying32 rfl (by kernel_rfl) rfl (by (with_reducible repeat (first | refine blk_drewN ?_ _ | refine blk_drew ?_ | refine blk_alloc ?_ _)); refine blk_put (cs := #[.slice none 0 0]) ?_ 0 _ rfl; refine blk_far ?_ NB194_193.out _; (with_reducible repeat (first | refine blk_drewN ?_ _ | refine blk_drew ?_ | refine blk_alloc ?_ _)); exact BK194.out) Try.underlying32 rfl (by kernel_rfl)) rfl ?_
    exact ⟨_, _, by first | rfl | (simp <;> rfl) | (simp [*] <;> rfl), by (with_reducible repeat (first | apply Kd.R_alloc | apply Kd.R_drewN | apply Kd.R_drew)); exact Kd.R_mono (Kd.R_far (p := ⟨gb194, 0, none⟩) (Kd.R_far (p := ⟨gb193, 0, none⟩) (Kd.R_types (Kd.R_types HO_202000.out BK193.out (by decide)) BK194.out (by decide)) (fun _ hk => hk.1.2) (.slice Ao133 x202000_1.length co133)) (fun _ hk => hk.2) (.slice Ao135 x203000_1.length co135)) (fun _ hk => hk.1.1), by (with_reducible repeat (first | apply Kd.R_alloc | apply Kd.R_drewN | apply Kd.R_drew)); exact Kd.R_mono (Kd.R_far (p := ⟨gb194, 0, none⟩) (Kd.R_far (p := ⟨gb193, 0, none⟩) (Kd.R_types (Kd.R_types HO_203000.out BK193.out (by decide)) BK194.out (by decide)) (fun _ hk => hk.1.2) (.slice Ao133 x202000_1.length co133)) (fun _ hk => hk.2) (.slice Ao135 x203000_1.length co135)) (fun _ hk => hk.1.1), by repeat (first | exact zh0 HB | refine below_set ?_ GE192.out | refine below_set ?_ GE193.out | refine below_set ?_ GE194.out | refine below_set ?_ GE201.out | refine below_set ?_ GE202.out)⟩

open Go.Proofs.Ytldkbeccpheckab.Cp
/-! ### spec_l1In: function 166 -/
def spec_l1In.f (a0 : Int) (a1 : Int) (a2 : Int) : Option (Bool) := if a0 ≥ a1 then (some (decide (a0 ≤ a2))) else (some false)
set_option maxHeartbeats 8000000 in
set_option maxRecDepth 100000 in
theorem spec_l1In.calls (a0 : Int) (a1 : Int) (a2 : Int) (r : Bool) (w : World) (h : spec_l1In.f a0 a1 a2 = some r) :
  Calls Try.prog 166 #[.int .i64 a0, .int .i64 a1, .int .i64 a2] w fun e w' => e = .returned (.bool r) ∧ Drawn0 w w' := by
 have H : (if a0 ≥ a1 then (some (decide (a0 ≤ a2))) else (some false)) = some r := h
 clear h
 by_cases c4 : a0 ≥ a1
 ·rw [if_pos c4] at H
  have c4b0 : decide (a1 ≤ a0) = true := decide_eq_true c4
  clear c4
  obtain rfl := Option.some.inj H
  go_enter Try.func166, Try.ntmps166
  go_wp2
  go_ret
  exact ⟨by first | rfl | (simp; done) | (simp [*]; done), by repeat (first | exact Drawn0.refl _ | apply Drawn0.step)⟩
 ·rw [if_neg c4] at H
  have c4b0 : decide (a1 ≤ a0) = false := decide_eq_false c4
  clear c4
  obtain rfl := Option.some.inj H
  go_enter Try.func166, Try.ntmps166
  go_wp2
  go_ret
  exact ⟨by first | rfl | (simp; done) | (simp [*]; done), by repeat (first | exact Drawn0.refl _ | apply Drawn0.step)⟩

open Go.Proofs.Ytldkbeccpheckab.Cp
/-! ### spec_l2Memory: function 153 -/
mutual
def spec_l2Memory.l0 : Nat → Int → List (List Int) → Option (Bool)
 | 0, _, _ => none
 | k + 1, x3, x227000 => if x3 < (x227000.length : Int) then (spec_l2Memory.j1 k x3 (decide (x3 ≤ 16)) x227000) else (spec_l2Memory.j1 k x3 false x227000)
def spec_l2Memory.j1 : Nat → Int → Bool → List (List Int) → Option (Bool)
 | 0, _, _, _ => none
 | k + 1, x3, x12, x227000 => if x12 = true then (if 0 ≤ x3 then (if x3 < (x227000.length : Int) then ((spec_l1In.f ((rd_L1 x227000 x3).length : Int) 1 64).bind fun t228 => (if t228 = true then (spec_l2Memory.l0 k (wrap64 (x3 + 1)) x227000) else (some false))) else (none)) else (none)) else (some (decide ((x227000.length : Int) ≤ 16)))
end
def spec_l2Memory.f (k : Nat) (l0_0 : List (List Int)) : Option (Bool) := spec_l2Memory.l0 k 0 l0_0
theorem spec_l2Memory.mono_l : ∀ k, (∀ y0 y1, LeO (spec_l2Memory.l0 k y0 y1) (spec_l2Memory.l0 (k + 1) y0 y1)) ∧ (∀ y0 y1 y2, LeO (spec_l2Memory.j1 k y0 y1 y2) (spec_l2Memory.j1 (k + 1) y0 y1 y2))
 | 0 => ⟨fun _ _ r h => by simp [spec_l2Memory.l0] at h, fun _ _ _ r h => by simp [spec_l2Memory.j1] at h⟩
 | k + 1 => by
  obtain ⟨ih0, ih1⟩ := spec_l2Memory.mono_l k
  refine ⟨?_, ?_⟩
  ·intro y0 y1
   unfold spec_l2Memory.l0
   repeat' first
   | (with_reducible exact ih0 _ _)
   | (with_reducible exact ih1 _ _ _)
   | (with_reducible exact LeO.refl _)
   | (with_reducible exact LeO.none _)
   | (with_reducible refine LeO.ite ?_ ?_)
   | (with_reducible refine LeO.bind ?_ (fun _ => ?_))
   | exact ih0 _ _
   | exact ih1 _ _ _
   | exact LeO.none _
   | refine LeO.ite ?_ ?_
   | refine LeO.bind ?_ (fun _ => ?_)
  ·intro y0 y1 y2
   unfold spec_l2Memory.j1
   repeat' first
   | (with_reducible exact ih0 _ _)
   | (with_reducible exact ih1 _ _ _)
   | (with_reducible exact LeO.refl _)
   | (with_reducible exact LeO.none _)
   | (with_reducible refine LeO.ite ?_ ?_)
   | (with_reducible refine LeO.bind ?_ (fun _ => ?_))
   | exact ih0 _ _
   | exact ih1 _ _ _
   | exact LeO.none _
   | refine LeO.ite ?_ ?_
   | refine LeO.bind ?_ (fun _ => ?_)
theorem spec_l2Memory.mono : ∀ a0 k, LeO (spec_l2Memory.f k a0) (spec_l2Memory.f (k + 1) a0) := by
 intro a0 k
 obtain ⟨ih0, ih1⟩ := spec_l2Memory.mono_l k
 unfold spec_l2Memory.f
 repeat' first
   | (with_reducible exact ih0 _ _)
   | (with_reducible exact ih1 _ _ _)
   | (with_reducible exact LeO.refl _)
   | (with_reducible exact LeO.none _)
   | (with_reducible refine LeO.ite ?_ ?_)
   | (with_reducible refine LeO.bind ?_ (fun _ => ?_))
   | exact ih0 _ _
   | exact ih1 _ _ _
   | exact LeO.none _
   | refine LeO.ite ?_ ?_
   | refine LeO.bind ?_ (fun _ => ?_)
set_option maxHeartbeats 8000000 in
set_option maxRecDepth 100000 in
theorem spec_l2Memory.calls (k : Nat) (A0_0 : Option Addr) (c0_0 : Nat) (l0_0 : List (List Int)) (r : Bool) (w : World) (hr0_0 : Kd.C (Kd.slice 5 (Kd.int .u8)) w A0_0 l0_0.length l0_0) (hc0_0 : l0_0.length ≤ c0_0) (h : spec_l2Memory.f k l0_0 = some r) :
  Calls Try.prog 153 #[.agg #[.slice A0_0 l0_0.length c0_0]] w fun e w' => e = .returned (.bool r) ∧ Below w.heap.size w w' := by
 have hu35 := Try.underlying35
 have HR0_0 := Aside0.mk hr0_0
 have HC0_0 := Aside0.mk hc0_0
 clear hr0_0 hc0_0
 have HB := Aside0.mk (Below.refl w.heap.size w)
 have H : (spec_l2Memory.l0 k 0 l0_0) = some r := h
 clear h
 have H' := Aside0.mk H
 clear H
 go_enter Try.func153, Try.ntmps153
 go_wp2_with (first | ((with_reducible refine gate_dst (N := 1) rfl ?_); refine box_event ?hg (N := 1) ?hd (cs := #[.slice A0_0 l0_0.length c0_0]) (t := 35) ?hr ?_; (case hd => rfl); (case hg => rfl); (case hr => first | (go_simp; done) | (go_simp; rfl)); intro gb226 hg w2 hbox hb; have BK226 := Aside0.mk (hbox); have GW226 := zge HB hg; have GE226 := zge HB hg; replace HB := zhs HB hb; clear hb hbox hg))
 go_loopg [3] k (fun kq v3 w' => ∃ (x3_1 : Int), v3 = .int .i64 x3_1 ∧ Aside0 (spec_l2Memory.l0 kq x3_1 l0_0 = some r) ∧ Aside0 (kq ≤ k) ∧ Aside0 (w'.heap[gb226]? = some (.cells #[(.slice A0_0 l0_0.length c0_0)] 35 (0, 0))) ∧ Aside0 (Below w.heap.size w w'))
 case atStart => exact ⟨(0), (by first | rfl | (simp; done) | (simp [*]; done)), H', ⟨Nat.le_refl _⟩, ⟨zk0 BK226⟩, ⟨by repeat (first | exact zh0 HB | refine below_set ?_ GE226.out)⟩⟩
 case round =>
  clear H'
  try clear c1
  try clear p2
  obtain ⟨x3_1, rfl, HA, HK1, BK226, HB⟩ := hrel
  cases gk with
  | zero => exact absurd HA.out (by simp [spec_l2Memory.l0])
  | succ k1 =>
   have H := HA.out
   clear HA
   simp only [spec_l2Memory.l0] at H
   have HC3 := Aside0.mk H
   clear H
   go_upto_region 2 with (fail)
   go_cut [12] (fun v12 wc => ∃ (kq : Nat) (x12_2 : Bool), v12 = .bool x12_2 ∧ Aside0 (spec_l2Memory.j1 kq x3_1 x12_2 l0_0 = some r) ∧ Aside0 (kq ≤ k1) ∧ Aside0 (wc.heap[gb226]? = some (.cells #[(.slice A0_0 l0_0.length c0_0)] 35 (0, 0))) ∧ Aside0 (Below w.heap.size w wc))
   case first =>
    have H := HC3.out
    clear HC3
    by_cases c4 : x3_1 < (l0_0.length : Int)
    ·rw [if_pos c4] at H
     have c4b0 : decide (x3_1 < (l0_0.length : Int)) = true := decide_eq_true c4
     clear c4
     (first | rw [c4b0] | (simp only [i64_w, i32_w]; rw [c4b0]) | skip)
     have H' := Aside0.mk H
     clear H
     have hcz5_0 := zc0 BK226 0 rfl
     have hfz5_0 := blk_frozen BK226.out 0
     go_wp2
     go_meet
     case rel => exact ⟨_, (decide (x3_1 ≤ 16)), (by first | rfl | (simp; done) | (simp [*]; done)), H', ⟨by have := HK1.out; first | omega | exact Nat.le_refl _⟩, ⟨zk0 BK226⟩, ⟨by repeat (first | exact zh0 HB | refine below_set ?_ GE226.out)⟩⟩
    ·rw [if_neg c4] at H
     have c4b0 : decide (x3_1 < (l0_0.length : Int)) = false := decide_eq_false c4
     clear c4
     (first | rw [c4b0] | (simp only [i64_w, i32_w]; rw [c4b0]) | skip)
     have H' := Aside0.mk H
     clear H
     have hcz6_0 := zc0 BK226 0 rfl
     have hfz6_0 := blk_frozen BK226.out 0
     go_wp2
     go_meet
     case rel => exact ⟨_, (false), (by first | rfl | (simp; done) | (simp [*]; done)), H', ⟨by have := HK1.out; first | omega | exact Nat.le_refl _⟩, ⟨zk0 BK226⟩, ⟨by repeat (first | exact zh0 HB | refine below_set ?_ GE226.out)⟩⟩
   case rest =>
    clear HC3
    try clear c1
    try clear p2
    try clear c4
    try clear c4b0
    try clear hcz5_0
    try clear hcz6_0
    try clear hfz5_0
    try clear hfz6_0
    try clear p2
    obtain ⟨kq, x12_2, rfl, HA, HJ2, BK226, HB⟩ := hcut
    cases kq with
    | zero => exact absurd HA.out (by simp [spec_l2Memory.j1])
    | succ kj2 =>
     have H := HA.out
     clear HA
     simp only [spec_l2Memory.j1] at H
     by_cases c7 : x12_2 = true
     ·subst c7
      have H1 : (if 0 ≤ x3_1 then (if x3_1 < (l0_0.length : Int) then ((spec_l1In.f ((rd_L1 l0_0 x3_1).length : Int) 1 64).bind fun t228 => (if t228 = true then (spec_l2Memory.l0 kj2 (wrap64 (x3_1 + 1)) l0_0) else (some false))) else (none)) else (none)) = some r := by rw [if_pos rfl] at H; exact H
      clear H
      have H := H1
      clear H1
      by_cases c8 : 0 ≤ x3_1
      ·rw [if_pos c8] at H
       have c8b0 : decide (0 ≤ x3_1) = true := decide_eq_true c8
       clear c8
       by_cases c9 : x3_1 < (l0_0.length : Int)
       ·rw [if_pos c9] at H
        have c9b0 : decide (x3_1 < (l0_0.length : Int)) = true := decide_eq_true c9
        clear c9
        replace H := Option.bind_eq_some_iff.mp H
        obtain ⟨t228, A100, H⟩ := H
        replace H : (if t228 = true then (spec_l2Memory.l0 kj2 (wrap64 (x3_1 + 1)) l0_0) else (some false)) = some r := H
        have A10 := Aside0.mk A100
        clear A100
        by_cases c11 : t228 = true
        ·subst c11
         have H1 : (spec_l2Memory.l0 kj2 (wrap64 (x3_1 + 1)) l0_0) = some r := by rw [if_pos rfl] at H; exact H
         clear H
         have H := H1
         clear H1
         have H' := Aside0.mk H
         clear H
         have hcz12_0 := zc0 BK226 0 rfl
         have hfz12_0 := blk_frozen BK226.out 0
         have p227 : 0 ≤ (x3_1 : Int) := of_decide_eq_true (by first | (with_reducible assumption) | assumption)
         have q227 : x3_1 < (l0_0.length : Int) := of_decide_eq_true (by first | (with_reducible assumption) | assumption)
         obtain ⟨ad227, A227_0, c227_0, e227, hx227_0, hl227_0, hi227_0⟩ := at_L1 HR0_0.out x3_1 p227 q227
         cases e227
         replace hx227_0 := (HB.out.cell (World.block_lt_of_cell? w _ hx227_0)).trans hx227_0
         have HR227_0 := Aside0.mk hi227_0
         have HC227_0 := Aside0.mk hl227_0
         clear hi227_0 hl227_0
         replace p227 := eq_true p227
         replace q227 := eq_true q227
         go_wp2_with (first | ((with_reducible refine gate_callee (f := 166) rfl ?_); refine goesL_ (some 21) rfl rfl Try.func166 (by kernel_rfl) rfl #[.int .i64 ((rd_L1 l0_0 x3_1).length : Int), .int .i64 1, .int .i64 64] rfl (by (try simp only [zq1, zq2, zq3]); first | done | rfl | (simp only [List.length_drop, List.length_take]; rfl)) ?_; (with_reducible refine (spec_l1In.calls ((rd_L1 l0_0 x3_1).length : Int) 1 64 true _ A10.out).mono ?_); rintro e w' ⟨rfl, ⟨nd, rfl⟩⟩; refine ⟨_, rfl, ?_⟩))
         go_roundg kj2
         case measure => have := HK1.out; have := HJ2.out; omega
         case rel => exact ⟨(wrap64 (x3_1 + 1)), (by first | rfl | (simp; done) | (simp [*]; done)), H', ⟨by have := HK1.out; have := HJ2.out; omega⟩, ⟨zk0 BK226⟩, ⟨by repeat (first | exact zh0 HB | refine below_set ?_ GE226.out)⟩⟩
        ·replace c11 := Bool.eq_false_iff.mpr c11
         subst c11
         have H1 : (some false) = some r := by rw [if_neg (show ¬ (false = true) by decide)] at H; exact H
         clear H
         have H := H1
         clear H1
         obtain rfl := Option.some.inj H
         have hcz13_0 := zc0 BK226 0 rfl
         have hfz13_0 := blk_frozen BK226.out 0
         have p227 : 0 ≤ (x3_1 : Int) := of_decide_eq_true (by first | (with_reducible assumption) | assumption)
         have q227 : x3_1 < (l0_0.length : Int) := of_decide_eq_true (by first | (with_reducible assumption) | assumption)
         obtain ⟨ad227, A227_0, c227_0, e227, hx227_0, hl227_0, hi227_0⟩ := at_L1 HR0_0.out x3_1 p227 q227
         cases e227
         replace hx227_0 := (HB.out.cell (World.block_lt_of_cell? w _ hx227_0)).trans hx227_0
         have HR227_0 := Aside0.mk hi227_0
         have HC227_0 := Aside0.mk hl227_0
         clear hi227_0 hl227_0
         replace p227 := eq_true p227
         replace q227 := eq_true q227
         go_wp2_with (first | ((with_reducible refine gate_callee (f := 166) rfl ?_); refine goesL_ (some 21) rfl rfl Try.func166 (by kernel_rfl) rfl #[.int .i64 ((rd_L1 l0_0 x3_1).length : Int), .int .i64 1, .int .i64 64] rfl (by (try simp only [zq1, zq2, zq3]); first | done | rfl | (simp only [List.length_drop, List.length_take]; rfl)) ?_; (with_reducible refine (spec_l1In.calls ((rd_L1 l0_0 x3_1).length : Int) 1 64 false _ A10.out).mono ?_); rintro e w' ⟨rfl, ⟨nd, rfl⟩⟩; refine ⟨_, rfl, ?_⟩))
         go_ret
         exact ⟨by first | rfl | (simp <;> rfl) | (simp [*] <;> rfl), by repeat (first | exact zh0 HB | refine below_set ?_ GE226.out)⟩
       ·rw [if_neg c9] at H
        exact absurd H (by simp)
      ·rw [if_neg c8] at H
       exact absurd H (by simp)
     ·replace c7 := Bool.eq_false_iff.mpr c7
      subst c7
      have H1 : (some (decide ((l0_0.length : Int) ≤ 16))) = some r := by rw [if_neg (show ¬ (false = true) by decide)] at H; exact H
      clear H
      have H := H1
      clear H1
      obtain rfl := Option.some.inj H
      have hcz14_0 := zc0 BK226 0 rfl
      have hfz14_0 := blk_frozen BK226.out 0
      go_wp2
      go_ret
      exact ⟨by first | rfl | (simp <;> rfl) | (simp [*] <;> rfl), by repeat (first | exact zh0 HB | refine below_set ?_ GE226.out)⟩

end Go.Proofs.Ytldkbeccpheckab.PFnExactDeleteText
