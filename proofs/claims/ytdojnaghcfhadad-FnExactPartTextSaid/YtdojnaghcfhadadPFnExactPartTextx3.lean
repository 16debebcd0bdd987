/- What is proved here: each Go function that is named below answers, and leaves memory, as the theorem of its name says; no condition beyond those that each theorem states. Laid by this session's own program (wip/driver.py) over the kit's print. -/
import Derived.Test.YtdojnaghcfhadadPFnExactPartTextx0
import Derived.Test.YtdojnaghcfhadadPFnExactPartTextx2
namespace Go.Proofs.Ytdojnaghcfhadad.PFnExactPartText
open Go.RowKit Go.Proofs.YtdojnaghcfhadadW.PrintWords Go.Proofs.YtdojnaghcfhadadW.PrintLast Go.Proofs.YtdojnaghcfhadadW.PrintMore
attribute [local go_sem] max2_int min2_int max_two min_two max_three min_three max_four min_four   -- for this text's walks alone
set_option linter.unusedVariables false
set_option linter.unusedSimpArgs false

open Go.Proofs.Ytdojnaghcfhadad.Cp
/-! ### spec_l7Split: function 93 -/
mutual
def spec_l7Split.l0 : Nat → Int → Int → Int → List (S60) → List (S60) → List (S60) → Option ((List (S60)) × (List (S60)))
 | 0, _, _, _, _, _, _ => none
 | k + 1, x1, x8, x9, x181000, x190000, x191000 => if x9 < (x181000.length : Int) then (if 0 ≤ x9 then (if (wrap64 (x8 + ((rd_T60 x181000 x9).f2))) ≤ x1 then (if ((rd_T60 x181000 x9).f2) > 0 then (spec_l7Split.j1 k x1 x8 x9 true x181000 x190000 x191000 ((rd_T60 x181000 x9).f0) ((rd_T60 x181000 x9).f1) ((rd_T60 x181000 x9).f2) ((rd_T60 x181000 x9).f3)) else (if x8 < x1 then (spec_l7Split.j1 k x1 x8 x9 true x181000 x190000 x191000 ((rd_T60 x181000 x9).f0) ((rd_T60 x181000 x9).f1) ((rd_T60 x181000 x9).f2) ((rd_T60 x181000 x9).f3)) else ((spec_l7Length.f k x181000).bind fun t193 => (spec_l7Split.j1 k x1 x8 x9 (x1 == t193) x181000 x190000 x191000 ((rd_T60 x181000 x9).f0) ((rd_T60 x181000 x9).f1) ((rd_T60 x181000 x9).f2) ((rd_T60 x181000 x9).f3))))) else (spec_l7Split.j1 k x1 x8 x9 false x181000 x190000 x191000 ((rd_T60 x181000 x9).f0) ((rd_T60 x181000 x9).f1) ((rd_T60 x181000 x9).f2) ((rd_T60 x181000 x9).f3))) else (none)) else (some (x190000, x191000))
def spec_l7Split.j1 : Nat → Int → Int → Int → Bool → List (S60) → List (S60) → List (S60) → Int → Int → Int → Int → Option ((List (S60)) × (List (S60)))
 | 0, _, _, _, _, _, _, _, _, _, _, _ => none
 | k + 1, x1, x8, x9, x54, x181000, x190000, x191000, x193000, x193001, x193002, x193003 => if x54 = true then (if x190000.length < 4398046511104 then (spec_l7Split.l0 k x1 (wrap64 (x8 + x193002)) (wrap64 (x9 + 1)) x181000 (x190000 ++ [(⟨x193000, x193001, x193002, x193003⟩ : S60)]) x191000) else (none)) else (if x8 ≥ x1 then (if x191000.length < 4398046511104 then (spec_l7Split.l0 k x1 (wrap64 (x8 + x193002)) (wrap64 (x9 + 1)) x181000 x190000 (x191000 ++ [(⟨x193000, x193001, x193002, x193003⟩ : S60)])) else (none)) else ((spec_l2Slice.f x193000 x193001 x193002 x193003 0 (wrap64 (x1 - x8)) (wrap64 (x1 - x8))).bind fun bt200 => (if x190000.length < 4398046511104 then ((spec_l2Slice.f x193000 x193001 x193002 x193003 (wrap64 (x1 - x8)) x193002 x193003).bind fun bt207 => (if x191000.length < 4398046511104 then (spec_l7Split.l0 k x1 (wrap64 (x8 + x193002)) (wrap64 (x9 + 1)) x181000 (x190000 ++ [(⟨bt200.1, bt200.2.1, bt200.2.2.1, bt200.2.2.2⟩ : S60)]) (x191000 ++ [(⟨bt207.1, bt207.2.1, bt207.2.2.1, bt207.2.2.2⟩ : S60)])) else (none))) else (none))))
end
def spec_l7Split.f (k : Nat) (l0_0 : List (S60)) (a1 : Int) : Option ((List (S60)) × (List (S60))) := spec_l7Split.l0 k a1 0 0 l0_0 (([] : List (S60))) (([] : List (S60)))
theorem spec_l7Split.mono_l : ∀ k, (∀ y0 y1 y2 y3 y4 y5, LeO (spec_l7Split.l0 k y0 y1 y2 y3 y4 y5) (spec_l7Split.l0 (k + 1) y0 y1 y2 y3 y4 y5)) ∧ (∀ y0 y1 y2 y3 y4 y5 y6 y7 y8 y9 y10, LeO (spec_l7Split.j1 k y0 y1 y2 y3 y4 y5 y6 y7 y8 y9 y10) (spec_l7Split.j1 (k + 1) y0 y1 y2 y3 y4 y5 y6 y7 y8 y9 y10))
 | 0 => ⟨fun _ _ _ _ _ _ r h => by simp [spec_l7Split.l0] at h, fun _ _ _ _ _ _ _ _ _ _ _ r h => by simp [spec_l7Split.j1] at h⟩
 | k + 1 => by
  obtain ⟨ih0, ih1⟩ := spec_l7Split.mono_l k
  refine ⟨?_, ?_⟩
  ·intro y0 y1 y2 y3 y4 y5
   unfold spec_l7Split.l0
   repeat' first
   | (with_reducible exact ih0 _ _ _ _ _ _)
   | (with_reducible exact ih1 _ _ _ _ _ _ _ _ _ _ _)
   | (with_reducible exact spec_l7Length.mono _ _)
   | (with_reducible exact LeO.refl _)
   | (with_reducible exact LeO.none _)
   | (with_reducible refine LeO.ite ?_ ?_)
   | (with_reducible refine LeO.bind ?_ (fun _ => ?_))
   | exact ih0 _ _ _ _ _ _
   | exact ih1 _ _ _ _ _ _ _ _ _ _ _
   | exact spec_l7Length.mono _ _
   | exact LeO.none _
   | refine LeO.ite ?_ ?_
   | refine LeO.bind ?_ (fun _ => ?_)
  ·intro y0 y1 y2 y3 y4 y5 y6 y7 y8 y9 y10
   unfold spec_l7Split.j1
   repeat' first
   | (with_reducible exact ih0 _ _ _ _ _ _)
   | (with_reducible exact ih1 _ _ _ _ _ _ _ _ _ _ _)
   | (with_reducible exact spec_l7Length.mono _ _)
   | (with_reducible exact LeO.refl _)
   | (with_reducible exact LeO.none _)
   | (with_reducible refine LeO.ite ?_ ?_)
   | (with_reducible refine LeO.bind ?_ (fun _ => ?_))
   | exact ih0 _ _ _ _ _ _
   | exact ih1 _ _ _ _ _ _ _ _ _ _ _
   | exact spec_l7Length.mono _ _
   | exact LeO.none _
   | refine LeO.ite ?_ ?_
   | refine LeO.bind ?_ (fun _ => ?_)
theorem spec_l7Split.mono : ∀ a0 a1 k, LeO (spec_l7Split.f k a0 a1) (spec_l7Split.f (k + 1) a0 a1) := by
 intro a0 a1 k
 obtain ⟨ih0, ih1⟩ := spec_l7Split.mono_l k
 unfold spec_l7Split.f
 repeat' first
   | (with_reducible exact ih0 _ _ _ _ _ _)
   | (with_reducible exact ih1 _ _ _ _ _ _ _ _ _ _ _)
   | (with_reducible exact spec_l7Length.mono _ _)
   | (with_reducible exact LeO.refl _)
   | (with_reducible exact LeO.none _)
   | (with_reducible refine LeO.ite ?_ ?_)
   | (with_reducible refine LeO.bind ?_ (fun _ => ?_))
   | exact ih0 _ _ _ _ _ _
   | exact ih1 _ _ _ _ _ _ _ _ _ _ _
   | exact spec_l7Length.mono _ _
   | exact LeO.none _
   | refine LeO.ite ?_ ?_
   | refine LeO.bind ?_ (fun _ => ?_)
def spec_l7Split.T7 : Bool × List (List Nat × List Nat) := (true, [([], []), ([0], [0]), ([], []), ([], []), ([], []), ([3, 4], [3, 4]), ([], []), ([], []), ([6, 7], [6, 7]), ([2, 5, 8], [2, 5, 8]), ([9], [9]), ([1, 10, 9], [1, 10]), ([0, 1, 2, 3, 4, 5, 6, 7, 8, 9, 10, 11], []), ([12, 11, 11, 0, 1, 2, 3, 4, 5, 6, 7, 8, 9, 10, 11], [11, 12])])
def spec_l7Split.B7 : List Nat := [0, 1, 0, 0, 0, 24, 0, 0, 192, 508, 1020, 2047, 4095, 8191]
theorem spec_l7Split.tab7 : rtab .any (opsOf Try.f93 7) = spec_l7Split.T7 := by kernel_rfl
theorem spec_l7Split.bits7 : waitsOk spec_l7Split.T7.2 spec_l7Split.B7 = true := by kernel_rfl
def spec_l7Split.T8 : Bool × List (List Nat × List Nat) := (true, [([], []), ([0], [0]), ([], []), ([], []), ([], []), ([3, 4], [3, 4]), ([], []), ([6], [6]), ([], []), ([8], [8]), ([2, 5, 7, 9], [2, 5, 7, 9]), ([10], [10]), ([1, 11, 10], [1, 11]), ([0, 1, 2, 3, 4, 5, 6, 7, 8, 9, 10, 11, 12], []), ([13, 12, 12, 0, 1, 2, 3, 4, 5, 6, 7, 8, 9, 10, 11, 12], [12, 13])])
def spec_l7Split.B8 : List Nat := [0, 1, 0, 0, 0, 24, 0, 64, 0, 256, 1020, 2044, 4095, 8191, 16383]
theorem spec_l7Split.tab8 : rtab .any (opsOf Try.f93 8) = spec_l7Split.T8 := by kernel_rfl
theorem spec_l7Split.bits8 : waitsOk spec_l7Split.T8.2 spec_l7Split.B8 = true := by kernel_rfl
set_option maxHeartbeats 8000000 in
set_option maxRecDepth 100000 in
theorem spec_l7Split.calls (k : Nat) (A0_0 : Option Addr) (c0_0 : Nat) (l0_0 : List (S60)) (a1 : Int) (r1 : List (S60)) (r2 : List (S60)) (w : World) (hr0_0 : Kd.C k60 w A0_0 l0_0.length l0_0) (hc0_0 : l0_0.length ≤ c0_0) (h : spec_l7Split.f k l0_0 a1 = some (r1, r2)) :
  Calls Try.prog 93 #[.agg #[.slice A0_0 l0_0.length c0_0], .int .i64 a1] w fun e w' => ∃ v0_ v1_ : Value, e = .returned (.tuple #[.agg #[v0_], .agg #[v1_]]) ∧ Kd.R k60 60 w' w.heap.size (fun k_ => some k_ ≠ (v1_ : Value).ownBlock) v0_ r1 ∧ Kd.R k60 60 w' w.heap.size (fun k_ => some k_ ≠ (v0_ : Value).ownBlock) v1_ r2 ∧ Below w.heap.size w w' := by
 have hu32 := Try.underlying32
 have hu60 := Try.underlying60
 have HR0_0 := Aside0.mk hr0_0
 have HC0_0 := Aside0.mk hc0_0
 clear hr0_0 hc0_0
 have HB := Aside0.mk (Below.refl w.heap.size w)
 have H : (spec_l7Split.l0 k a1 0 0 l0_0 (([] : List (S60))) (([] : List (S60)))) = some (r1, r2) := h
 clear h
 obtain ⟨y183, hy183⟩ : ∃ y_ : List (S60), y_ = (([] : List (S60))) := ⟨_, rfl⟩
 replace H : (spec_l7Split.l0 k a1 0 0 l0_0 y183 (([] : List (S60)))) = some (r1, r2) := by first | (rw [hy183]; with_reducible exact H) | (have H2_ := (Option.bind_some _ _).symm.trans H; rw [hy183]; with_reducible exact H2_) | (have H2_ := (Option.bind_some _ _).symm.trans H; with_reducible exact H2_) | with_reducible exact H | (rw [hy183]; exact H) | exact H
 have Ny183 := Aside0.mk hy183
 clear hy183
 obtain ⟨y186, hy186⟩ : ∃ y_ : List (S60), y_ = (([] : List (S60))) := ⟨_, rfl⟩
 replace H : (spec_l7Split.l0 k a1 0 0 l0_0 y183 y186) = some (r1, r2) := by first | (rw [hy186]; with_reducible exact H) | (have H2_ := (Option.bind_some _ _).symm.trans H; rw [hy186]; with_reducible exact H2_) | (have H2_ := (Option.bind_some _ _).symm.trans H; with_reducible exact H2_) | with_reducible exact H | (rw [hy186]; exact H) | exact H
 have Ny186 := Aside0.mk hy186
 clear hy186
 have H' := Aside0.mk H
 clear H
 go_enter Try.func93, Try.ntmps93
 go_wp2_with (first | ((with_reducible refine gate_dst (N := 2) rfl ?_); refine box_event ?hg (N := 2) ?hd (cs := #[.slice A0_0 l0_0.length c0_0]) (t := 32) ?hr ?_; (case hd => rfl); (case hg => rfl); (case hr => first | (go_simp; done) | (go_simp; rfl)); intro gb180 hg w3 hbox hb; have BK180 := Aside0.mk (hbox); have GW180 := zge HB hg; have GE180 := zge HB hg; replace HB := zhs HB hb; clear hb hbox hg) | ((with_reducible refine gate_dst (N := 4) rfl ?_); refine box_event ?hg (N := 4) ?hd (cs := #[.slice none 0 0]) (t := 32) ?hr ?_; (case hd => rfl); (case hg => rfl); (case hr => first | (go_simp; done) | (go_simp; rfl)); intro gb181 hg w4 hbox hb; have BK181 := Aside0.mk (hbox); have GW181 := zge HB hg; have GE181 := zge HB hg; have NB180_181 := znl BK180 hg; have NB181_180 := znr BK180 hg; replace BK180 := zb0 BK180 hb; replace HB := zhs HB hb; clear hb hbox hg) | ((with_reducible refine gate_dst (N := 5) rfl ?_); refine box_event ?hg (N := 5) ?hd (cs := #[.slice none 0 0]) (t := 32) ?hr ?_; (case hd => rfl); (case hg => rfl); (case hr => first | (go_simp; done) | (go_simp; rfl)); intro gb182 hg w5 hbox hb; have BK182 := Aside0.mk (hbox); have GW182 := zge HB hg; have GE182 := zge HB hg; have NB180_182 := znl BK180 hg; have NB182_180 := znr BK180 hg; have NB181_182 := znl BK181 hg; have NB182_181 := znr BK181 hg; replace BK180 := zb0 BK180 hb; replace BK181 := zb0 BK181 hb; replace HB := zhs HB hb; clear hb hbox hg) | ((with_reducible refine gate_dst (N := 11) rfl ?_); refine Kd.R_lit k60 _ 60 ?hg (N := 11) ?hd (xs := ([] : List (S60))) (inner := []) (ok := fun _ => True) (okp := fun _ => True) ?hr ?hp (fun _ hk => hk) trivial (Below.refl _ _) (Nat.le_refl _) (by simp) ?_; (case hd => rfl); (case hg => rfl); (case hr => first | (go_simp; done) | (go_simp; rfl)); (case hp => exact (Reps.none _ _)); intro v184 w6 ho7 hb hg_ hnew_; clear hg_ hnew_; (first | rw [← Ny183.out] at ho7 | (simp only [Int.reduceToNat] at ho7; rw [← Ny183.out] at ho7)); have HO185 := Aside0.mk (Kd.R_lower ho7 (below_size (zh0 HB))); replace BK180 := zb0 BK180 hb; replace BK181 := zb0 BK181 hb; replace BK182 := zb0 BK182 hb; replace HB := zhs HB hb; clear hb ho7; obtain ⟨Ao8, co8, eo8⟩ := Kd.R_slice HO185.out; subst eo8) | ((with_reducible refine gate_dst (N := 13) rfl ?_); refine Kd.R_lit k60 _ 60 ?hg (N := 13) ?hd (xs := ([] : List (S60))) (inner := []) (ok := fun _ => True) (okp := fun _ => True) ?hr ?hp (fun _ hk => hk) trivial (Below.refl _ _) (Nat.le_refl _) (by simp) ?_; (case hd => rfl); (case hg => rfl); (case hr => first | (go_simp; done) | (go_simp; rfl)); (case hp => exact (Reps.none _ _)); intro v187 w9 ho10 hb hg_ hnew_; clear hg_ hnew_; (first | rw [← Ny186.out] at ho10 | (simp only [Int.reduceToNat] at ho10; rw [← Ny186.out] at ho10)); have HO188 := Aside0.mk (Kd.R_lower (Kd.R_new' ho10 (Kd.R_lt (zr0 HO185))) (below_size (zh0 HB))); replace HO185 := Aside0.mk (Kd.R_elder' (zr0 HO185) (Kd.R_base ho10) hb); replace BK180 := zb0 BK180 hb; replace BK181 := zb0 BK181 hb; replace BK182 := zb0 BK182 hb; replace HB := zhs HB hb; clear hb ho10; obtain ⟨Ao11, co11, eo11⟩ := Kd.R_slice HO188.out; subst eo11) | ((with_reducible refine gate_dst (N := 6) rfl ?_); refine box_event ?hg (N := 6) ?hd (cs := #[.slice none 0 0]) (t := 32) ?hr ?_; (case hd => rfl); (case hg => rfl); (case hr => first | (go_simp; done) | (go_simp; rfl)); intro gb189 hg w12 hbox hb; have BK189 := Aside0.mk (hbox); have GW189 := zge HB hg; have GE189 := zge HB hg; have NB180_189 := znl BK180 hg; have NB189_180 := znr BK180 hg; have NB181_189 := znl BK181 hg; have NB189_181 := znr BK181 hg; have NB182_189 := znl BK182 hg; have NB189_182 := znr BK182 hg; replace HO185 := zrb HO185 hb; replace HO188 := zrb HO188 hb; replace BK180 := zb0 BK180 hb; replace BK181 := zb0 BK181 hb; replace BK182 := zb0 BK182 hb; replace HB := zhs HB hb; clear hb hbox hg) | ((with_reducible refine gate_dst (N := 7) rfl ?_); refine box_event ?hg (N := 7) ?hd (cs := #[.slice none 0 0]) (t := 32) ?hr ?_; (case hd => rfl); (case hg => rfl); (case hr => first | (go_simp; done) | (go_simp; rfl)); intro gb190 hg w13 hbox hb; have BK190 := Aside0.mk (hbox); have GW190 := Aside0.mk ((by rw [hg]; exact (below_size (by repeat (first | exact zh0 HB | refine below_set ?_ GE180.out | refine below_set ?_ GE181.out | refine below_set ?_ GE182.out | refine below_set ?_ GE189.out))) : w.heap.size ≤ gb190)); have GE190 := Aside0.mk ((by rw [hg]; exact (below_size (by repeat (first | exact zh0 HB | refine below_set ?_ GE180.out | refine below_set ?_ GE181.out | refine below_set ?_ GE182.out | refine below_set ?_ GE189.out))) : w.heap.size ≤ gb190)); have NB180_190 := znl BK180 hg; have NB190_180 := znr BK180 hg; have NB181_190 := znl BK181 hg; have NB190_181 := znr BK181 hg; have NB182_190 := znl BK182 hg; have NB190_182 := znr BK182 hg; have NB189_190 := znl BK189 hg; have NB190_189 := znr BK189 hg; replace HO185 := zrb HO185 hb; replace HO188 := zrb HO188 hb; replace BK180 := zb0 BK180 hb; replace BK181 := zb0 BK181 hb; replace BK182 := zb0 BK182 hb; replace BK189 := zb0 BK189 hb; replace HB := Aside0.mk (below_step (by repeat (first | exact zh0 HB | refine below_set ?_ GE180.out | refine below_set ?_ GE181.out | refine below_set ?_ GE182.out | refine below_set ?_ GE189.out)) hb); clear hb hbox hg; have hnb14 := NB189_180.out; have hnc14 := NB180_189.out; have hnb15 := NB189_181.out; have hnc15 := NB181_189.out; have hnb16 := NB189_182.out; have hnc16 := NB182_189.out; have hnb17 := NB189_190.out; have hnc17 := NB190_189.out; have hcz18_0 := zc0 BK189 0 rfl; have hfz18_0 := blk_frozen BK189.out 0; have hnb19 := NB190_180.out; have hnc19 := NB180_190.out; have hnb20 := NB190_181.out; have hnc20 := NB181_190.out; have hnb21 := NB190_182.out; have hnc21 := NB182_190.out; have hcz22_0 := zc0 BK190 0 rfl; have hfz22_0 := blk_frozen BK190.out 0))
 go_loopg [8, 9] k (fun kq v8 v9 w' => ∃ (x8_1 : Int) (x9_1 : Int) (x190000_1 : List (S60)) (x191000_1 : List (S60)) (u190000 : Value) (u191000 : Value), v8 = .int .i64 x8_1 ∧ v9 = .int .i64 x9_1 ∧ Aside0 (spec_l7Split.l0 kq a1 x8_1 x9_1 l0_0 x190000_1 x191000_1 = some (r1, r2)) ∧ Aside0 (kq ≤ k) ∧ Aside0 (Kd.R k60 60 w' w.heap.size (fun k_ => some k_ ≠ (u191000 : Value).ownBlock) u190000 x190000_1) ∧ Aside0 (Kd.R k60 60 w' w.heap.size (fun k_ => some k_ ≠ (u190000 : Value).ownBlock) u191000 x191000_1) ∧ Aside0 (w'.heap[gb180]? = some (.cells #[(.slice A0_0 l0_0.length c0_0)] 32 (0, 0))) ∧ Aside0 (w'.heap[gb181]? = some (.cells #[(.slice none 0 0)] 32 (0, 0))) ∧ Aside0 (w'.heap[gb182]? = some (.cells #[(.slice none 0 0)] 32 (0, 0))) ∧ Aside0 (w'.heap[gb189]? = some (.cells #[u190000] 32 (0, 0))) ∧ Aside0 (w'.heap[gb190]? = some (.cells #[u191000] 32 (0, 0))) ∧ Aside0 (Below w.heap.size w w'))
 case atStart => exact ⟨(0), (0), (y183), (y186), (.slice Ao8 y183.length co8), (.slice Ao11 y186.length co11), (by first | rfl | (simp; done) | (simp [*]; done)), (by first | rfl | (simp; done) | (simp [*]; done)), H', ⟨Nat.le_refl _⟩, ⟨by (with_reducible repeat (first | apply Kd.R_alloc | apply Kd.R_drewN | apply Kd.R_drew)); exact Kd.R_mono (Kd.R_far (p := ⟨gb190, 0, none⟩) (Kd.R_far (p := ⟨gb189, 0, none⟩) (Kd.R_types (Kd.R_types HO185.out BK189.out (by decide)) BK190.out (by decide)) (fun _ hk => hk.1.2) (.slice Ao8 y183.length co8)) (fun _ hk => hk.2) (.slice Ao11 y186.length co11)) (fun _ hk => hk.1.1.2)⟩, ⟨by (with_reducible repeat (first | apply Kd.R_alloc | apply Kd.R_drewN | apply Kd.R_drew)); exact Kd.R_mono (Kd.R_far (p := ⟨gb190, 0, none⟩) (Kd.R_far (p := ⟨gb189, 0, none⟩) (Kd.R_types (Kd.R_types HO188.out BK189.out (by decide)) BK190.out (by decide)) (fun _ hk => hk.1.2) (.slice Ao8 y183.length co8)) (fun _ hk => hk.2) (.slice Ao11 y186.length co11)) (fun _ hk => hk.1.1.2)⟩, ⟨by (with_reducible repeat (first | refine blk_drewN ?_ _ | refine blk_drew ?_ | refine blk_alloc ?_ _)); refine blk_far ?_ NB180_190.out _; refine blk_far ?_ NB180_189.out _; (with_reducible repeat (first | refine blk_drewN ?_ _ | refine blk_drew ?_ | refine blk_alloc ?_ _)); exact BK180.out⟩, ⟨by (with_reducible repeat (first | refine blk_drewN ?_ _ | refine blk_drew ?_ | refine blk_alloc ?_ _)); refine blk_far ?_ NB181_190.out _; refine blk_far ?_ NB181_189.out _; (with_reducible repeat (first | refine blk_drewN ?_ _ | refine blk_drew ?_ | refine blk_alloc ?_ _)); exact BK181.out⟩, ⟨by (with_reducible repeat (first | refine blk_drewN ?_ _ | refine blk_drew ?_ | refine blk_alloc ?_ _)); refine blk_far ?_ NB182_190.out _; refine blk_far ?_ NB182_189.out _; (with_reducible repeat (first | refine blk_drewN ?_ _ | refine blk_drew ?_ | refine blk_alloc ?_ _)); exact BK182.out⟩, ⟨by (with_reducible repeat (first | refine blk_drewN ?_ _ | refine blk_drew ?_ | refine blk_alloc ?_ _)); refine blk_far ?_ NB189_190.out _; refine blk_put (cs := #[.slice none 0 0]) ?_ 0 _ rfl; (with_reducible repeat (first | refine blk_drewN ?_ _ | refine blk_drew ?_ | refine blk_alloc ?_ _)); exact BK189.out⟩, ⟨by (with_reducible repeat (first | refine blk_drewN ?_ _ | refine blk_drew ?_ | refine blk_alloc ?_ _)); refine blk_put (cs := #[.slice none 0 0]) ?_ 0 _ rfl; refine blk_far ?_ NB190_189.out _; (with_reducible repeat (first | refine blk_drewN ?_ _ | refine blk_drew ?_ | refine blk_alloc ?_ _)); exact BK190.out⟩, ⟨by repeat (first | exact zh0 HB | refine below_set ?_ GE180.out | refine below_set ?_ GE181.out | refine below_set ?_ GE182.out | refine below_set ?_ GE189.out | refine below_set ?_ GE190.out)⟩⟩
 case round =>
  clear H'
  try clear c1
  try clear c2
  try clear p2
  try clear c9
  try clear c14
  try clear c15
  try clear c16
  try clear c17
  try clear c19
  try clear c20
  try clear c21
  try clear hcz18_0
  try clear hcz22_0
  try clear hfz18_0
  try clear hfz22_0
  obtain ⟨x8_1, x9_1, x190000_1, x191000_1, u190000, u191000, rfl, rfl, HA, HK1, HO_190000, HO_191000, BK180, BK181, BK182, BK189, BK190, HB⟩ := hrel
  cases gk with
  | zero => exact absurd HA.out (by simp [spec_l7Split.l0])
  | succ k1 =>
   have H := HA.out
   clear HA
   simp only [spec_l7Split.l0] at H
   by_cases c23 : x9_1 < (l0_0.length : Int)
   ·rw [if_pos c23] at H
    have c23b0 : decide (x9_1 < (l0_0.length : Int)) = true := decide_eq_true c23
    clear c23
    by_cases c24 : 0 ≤ x9_1
    ·rw [if_pos c24] at H
     have c24b0 : decide (0 ≤ x9_1) = true := decide_eq_true c24
     clear c24
     have HC25 := Aside0.mk H
     clear H
     have hnb26 := NB180_181.out
     have hnc26 := NB181_180.out
     have hnb27 := NB180_182.out
     have hnc27 := NB182_180.out
     have hnb28 := NB180_189.out
     have hnc28 := NB189_180.out
     have hnb29 := NB180_190.out
     have hnc29 := NB190_180.out
     have hcz30_0 := zc0 BK180 0 rfl
     have hfz30_0 := blk_frozen BK180.out 0
     have p191 : 0 ≤ (x9_1 : Int) := of_decide_eq_true (by first | (with_reducible assumption) | assumption)
     have q191 : x9_1 < (l0_0.length : Int) := of_decide_eq_true (by first | (with_reducible assumption) | assumption)
     obtain ⟨ad191, e191, hx191_0, hx191_1, hx191_2, hx191_3⟩ := at_T60 HR0_0.out x9_1 p191 q191
     cases e191
     replace hx191_0 := (HB.out.cell (World.block_lt_of_cell? w _ hx191_0)).trans hx191_0
     replace hx191_1 := (HB.out.cell (World.block_lt_of_cell? w _ hx191_1)).trans hx191_1
     replace hx191_2 := (HB.out.cell (World.block_lt_of_cell? w _ hx191_2)).trans hx191_2
     replace hx191_3 := (HB.out.cell (World.block_lt_of_cell? w _ hx191_3)).trans hx191_3
     replace p191 := eq_true p191
     replace q191 := eq_true q191
     go_upto_region 9 with (first | ((with_reducible refine gate_dst (N := 10) rfl ?_); refine box_event ?hg (N := 10) ?hd (cs := #[.int .i64 0, .int .i64 0, .int .i64 0, .int .i64 0]) (t := 60) ?hr ?_; (case hd => rfl); (case hg => rfl); (case hr => first | (go_simp; done) | (go_simp; rfl)); intro gb192 hg w31 hbox hb; have BK192 := Aside0.mk (hbox); have GW192 := Aside0.mk ((by rw [hg]; exact (below_size (by repeat (first | exact zh0 HB | refine below_set ?_ GE180.out | refine below_set ?_ GE181.out | refine below_set ?_ GE182.out | refine below_set ?_ GE189.out | refine below_set ?_ GE190.out))) : w.heap.size ≤ gb192)); have GE192 := Aside0.mk ((by rw [hg]; exact (below_size (by repeat (first | exact zh0 HB | refine below_set ?_ GE180.out | refine below_set ?_ GE181.out | refine below_set ?_ GE182.out | refine below_set ?_ GE189.out | refine below_set ?_ GE190.out))) : w.heap.size ≤ gb192)); have NB180_192 := znl BK180 hg; have NB192_180 := znr BK180 hg; have NB181_192 := znl BK181 hg; have NB192_181 := znr BK181 hg; have NB182_192 := znl BK182 hg; have NB192_182 := znr BK182 hg; have NB189_192 := znl BK189 hg; have NB192_189 := znr BK189 hg; have NB190_192 := znl BK190 hg; have NB192_190 := znr BK190 hg; replace HO_190000 := Aside0.mk (Kd.R_below (Kd.R_elderB (zr0 HO_190000) gb192 (Nat.le_of_eq hg.symm)) hb); replace HO_191000 := Aside0.mk (Kd.R_below (Kd.R_elderB (zr0 HO_191000) gb192 (Nat.le_of_eq hg.symm)) hb); replace BK180 := zb0 BK180 hb; replace BK181 := zb0 BK181 hb; replace BK182 := zb0 BK182 hb; replace BK189 := zb0 BK189 hb; replace BK190 := zb0 BK190 hb; replace HB := Aside0.mk (below_step (by repeat (first | exact zh0 HB | refine below_set ?_ GE180.out | refine below_set ?_ GE181.out | refine below_set ?_ GE182.out | refine below_set ?_ GE189.out | refine below_set ?_ GE190.out)) hb); clear hb hbox hg; have hnb32 := NB192_180.out; have hnc32 := NB180_192.out; have hnb33 := NB192_181.out; have hnc33 := NB181_192.out; have hnb34 := NB192_182.out; have hnc34 := NB182_192.out; have hnb35 := NB192_189.out; have hnc35 := NB189_192.out; have hnb36 := NB192_190.out; have hnc36 := NB190_192.out; have hcz37_0 := zc0 BK192 0 rfl; have hcz37_1 := zc0 BK192 1 rfl; have hcz37_2 := zc0 BK192 2 rfl; have hcz37_3 := zc0 BK192 3 rfl; have hfz37_0 := blk_frozen BK192.out 0; have hfz37_1 := blk_frozen BK192.out 1; have hfz37_2 := blk_frozen BK192.out 2; have hfz37_3 := blk_frozen BK192.out 3))
     (try simp only [Act.put, zp1, zp2, zp3])
     go_cut [54] (fun v54 wc => ∃ (kq : Nat) (x54_24 : Bool), v54 = .bool x54_24 ∧ Aside0 (spec_l7Split.j1 kq a1 x8_1 x9_1 x54_24 l0_0 x190000_1 x191000_1 ((rd_T60 l0_0 x9_1).f0) ((rd_T60 l0_0 x9_1).f1) ((rd_T60 l0_0 x9_1).f2) ((rd_T60 l0_0 x9_1).f3) = some (r1, r2)) ∧ Aside0 (kq ≤ k1) ∧ Aside0 (Kd.R k60 60 wc w.heap.size (fun k_ => some k_ ≠ (u191000 : Value).ownBlock ∧ k_ ≠ gb192) u190000 x190000_1) ∧ Aside0 (Kd.R k60 60 wc w.heap.size (fun k_ => some k_ ≠ (u190000 : Value).ownBlock ∧ k_ ≠ gb192) u191000 x191000_1) ∧ Aside0 (wc.heap[gb180]? = some (.cells #[(.slice (some ad191) l0_0.length c0_0)] 32 (0, 0))) ∧ Aside0 (wc.heap[gb181]? = some (.cells #[(.slice none 0 0)] 32 (0, 0))) ∧ Aside0 (wc.heap[gb182]? = some (.cells #[(.slice none 0 0)] 32 (0, 0))) ∧ Aside0 (wc.heap[gb189]? = some (.cells #[u190000] 32 (0, 0))) ∧ Aside0 (wc.heap[gb190]? = some (.cells #[u191000] 32 (0, 0))) ∧ Aside0 (wc.heap[gb192]? = some (.cells #[.int .i64 ((rd_T60 l0_0 x9_1).f0), .int .i64 ((rd_T60 l0_0 x9_1).f1), .int .i64 ((rd_T60 l0_0 x9_1).f2), .int .i64 ((rd_T60 l0_0 x9_1).f3)] 60 (0, 0))) ∧ Aside0 (Below w.heap.size w wc))
     case first =>
      have H := HC25.out
      clear HC25
      by_cases c38 : (wrap64 (x8_1 + ((rd_T60 l0_0 x9_1).f2))) ≤ a1
      ·rw [if_pos c38] at H
       have c38b0 : decide ((wrap64 (x8_1 + ((rd_T60 l0_0 x9_1).f2))) ≤ a1) = true := decide_eq_true c38
       clear c38
       (first | rw [c38b0] | (simp only [i64_w, i32_w]; rw [c38b0]) | skip)
       by_cases c39 : ((rd_T60 l0_0 x9_1).f2) > 0
       ·rw [if_pos c39] at H
        have c39b0 : decide (0 < ((rd_T60 l0_0 x9_1).f2)) = true := decide_eq_true c39
        clear c39
        have H' := Aside0.mk H
        clear H
        have hnb40 := NB192_180.out
        have hnc40 := NB180_192.out
        have hnb41 := NB192_181.out
        have hnc41 := NB181_192.out
        have hnb42 := NB192_182.out
        have hnc42 := NB182_192.out
        have hnb43 := NB192_189.out
        have hnc43 := NB189_192.out
        have hnb44 := NB192_190.out
        have hnc44 := NB190_192.out
        have hcz45_0 := zc0 BK192 0 rfl
        have hcz45_1 := zc0 BK192 1 rfl
        have hcz45_2 := zc0 BK192 2 rfl
        have hcz45_3 := zc0 BK192 3 rfl
        have hfz45_0 := blk_frozen BK192.out 0
        have hfz45_1 := blk_frozen BK192.out 1
        have hfz45_2 := blk_frozen BK192.out 2
        have hfz45_3 := blk_frozen BK192.out 3
        go_wp2
        go_meet
        case rel => exact ⟨_, (true), (by first | rfl | (simp; done) | (simp [*]; done)), H', ⟨by have := HK1.out; first | omega | exact Nat.le_refl _⟩, ⟨by (with_reducible repeat (first | apply Kd.R_alloc | apply Kd.R_drewN | apply Kd.R_drew)); exact Kd.R_mono (Kd.R_far (p := ⟨gb192, 3, none⟩) (Kd.R_far (p := ⟨gb192, 2, none⟩) (Kd.R_far (p := ⟨gb192, 1, none⟩) (Kd.R_far (p := ⟨gb192, 0, none⟩) (Kd.R_mono HO_190000.out (fun k_ hk => (⟨hk, hk.2⟩ : _ ∧ k_ ≠ gb192))) (fun _ hk => hk.2) (.int .i64 ((rd_T60 l0_0 x9_1).f0))) (fun _ hk => hk.2) (.int .i64 ((rd_T60 l0_0 x9_1).f1))) (fun _ hk => hk.2) (.int .i64 ((rd_T60 l0_0 x9_1).f2))) (fun _ hk => hk.2) (.int .i64 ((rd_T60 l0_0 x9_1).f3))) (fun _ hk => ⟨hk.1.1, hk.1.2⟩)⟩, ⟨by (with_reducible repeat (first | apply Kd.R_alloc | apply Kd.R_drewN | apply Kd.R_drew)); exact Kd.R_mono (Kd.R_far (p := ⟨gb192, 3, none⟩) (Kd.R_far (p := ⟨gb192, 2, none⟩) (Kd.R_far (p := ⟨gb192, 1, none⟩) (Kd.R_far (p := ⟨gb192, 0, none⟩) (Kd.R_mono HO_191000.out (fun k_ hk => (⟨hk, hk.2⟩ : _ ∧ k_ ≠ gb192))) (fun _ hk => hk.2) (.int .i64 ((rd_T60 l0_0 x9_1).f0))) (fun _ hk => hk.2) (.int .i64 ((rd_T60 l0_0 x9_1).f1))) (fun _ hk => hk.2) (.int .i64 ((rd_T60 l0_0 x9_1).f2))) (fun _ hk => hk.2) (.int .i64 ((rd_T60 l0_0 x9_1).f3))) (fun _ hk => ⟨hk.1.1, hk.1.2⟩)⟩, ⟨by (with_reducible repeat (first | refine blk_drewN ?_ _ | refine blk_drew ?_ | refine blk_alloc ?_ _)); refine blk_far ?_ NB180_192.out _; refine blk_far ?_ NB180_192.out _; refine blk_far ?_ NB180_192.out _; refine blk_far ?_ NB180_192.out _; (with_reducible repeat (first | refine blk_drewN ?_ _ | refine blk_drew ?_ | refine blk_alloc ?_ _)); exact BK180.out⟩, ⟨by (with_reducible repeat (first | refine blk_drewN ?_ _ | refine blk_drew ?_ | refine blk_alloc ?_ _)); refine blk_far ?_ NB181_192.out _; refine blk_far ?_ NB181_192.out _; refine blk_far ?_ NB181_192.out _; refine blk_far ?_ NB181_192.out _; (with_reducible repeat (first | refine blk_drewN ?_ _ | refine blk_drew ?_ | refine blk_alloc ?_ _)); exact BK181.out⟩, ⟨by (with_reducible repeat (first | refine blk_drewN ?_ _ | refine blk_drew ?_ | refine blk_alloc ?_ _)); refine blk_far ?_ NB182_192.out _; refine blk_far ?_ NB182_192.out _; refine blk_far ?_ NB182_192.out _; refine blk_far ?_ NB182_192.out _; (with_reducible repeat (first | refine blk_drewN ?_ _ | refine blk_drew ?_ | refine blk_alloc ?_ _)); exact BK182.out⟩, ⟨by (with_reducible repeat (first | refine blk_drewN ?_ _ | refine blk_drew ?_ | refine blk_alloc ?_ _)); refine blk_far ?_ NB189_192.out _; refine blk_far ?_ NB189_192.out _; refine blk_far ?_ NB189_192.out _; refine blk_far ?_ NB189_192.out _; (with_reducible repeat (first | refine blk_drewN ?_ _ | refine blk_drew ?_ | refine blk_alloc ?_ _)); exact BK189.out⟩, ⟨by (with_reducible repeat (first | refine blk_drewN ?_ _ | refine blk_drew ?_ | refine blk_alloc ?_ _)); refine blk_far ?_ NB190_192.out _; refine blk_far ?_ NB190_192.out _; refine blk_far ?_ NB190_192.out _; refine blk_far ?_ NB190_192.out _; (with_reducible repeat (first | refine blk_drewN ?_ _ | refine blk_drew ?_ | refine blk_alloc ?_ _)); exact BK190.out⟩, ⟨by (with_reducible repeat (first | refine blk_drewN ?_ _ | refine blk_drew ?_ | refine blk_alloc ?_ _)); refine blk_put (cs := #[.int .i64 ((rd_T60 l0_0 x9_1).f0), .int .i64 ((rd_T60 l0_0 x9_1).f1), .int .i64 ((rd_T60 l0_0 x9_1).f2), .int .i64 0]) ?_ 3 _ rfl; refine blk_put (cs := #[.int .i64 ((rd_T60 l0_0 x9_1).f0), .int .i64 ((rd_T60 l0_0 x9_1).f1), .int .i64 0, .int .i64 0]) ?_ 2 _ rfl; refine blk_put (cs := #[.int .i64 ((rd_T60 l0_0 x9_1).f0), .int .i64 0, .int .i64 0, .int .i64 0]) ?_ 1 _ rfl; refine blk_put (cs := #[.int .i64 0, .int .i64 0, .int .i64 0, .int .i64 0]) ?_ 0 _ rfl; (with_reducible repeat (first | refine blk_drewN ?_ _ | refine blk_drew ?_ | refine blk_alloc ?_ _)); exact BK192.out⟩, ⟨by repeat (first | exact zh0 HB | refine below_set ?_ GE180.out | refine below_set ?_ GE181.out | refine below_set ?_ GE182.out | refine below_set ?_ GE189.out | refine below_set ?_ GE190.out | refine below_set ?_ GE192.out)⟩⟩
       ·rw [if_neg c39] at H
        have c39b0 : decide (0 < ((rd_T60 l0_0 x9_1).f2)) = false := decide_eq_false c39
        clear c39
        by_cases c46 : x8_1 < a1
        ·rw [if_pos c46] at H
         have c46b0 : decide (x8_1 < a1) = true := decide_eq_true c46
         clear c46
         have H' := Aside0.mk H
         clear H
         have hnb47 := NB192_180.out
         have hnc47 := NB180_192.out
         have hnb48 := NB192_181.out
         have hnc48 := NB181_192.out
         have hnb49 := NB192_182.out
         have hnc49 := NB182_192.out
         have hnb50 := NB192_189.out
         have hnc50 := NB189_192.out
         have hnb51 := NB192_190.out
         have hnc51 := NB190_192.out
         have hcz52_0 := zc0 BK192 0 rfl
         have hcz52_1 := zc0 BK192 1 rfl
         have hcz52_2 := zc0 BK192 2 rfl
         have hcz52_3 := zc0 BK192 3 rfl
         have hfz52_0 := blk_frozen BK192.out 0
         have hfz52_1 := blk_frozen BK192.out 1
         have hfz52_2 := blk_frozen BK192.out 2
         have hfz52_3 := blk_frozen BK192.out 3
         go_wp2
         go_meet
         case rel => exact ⟨_, (true), (by first | rfl | (simp; done) | (simp [*]; done)), H', ⟨by have := HK1.out; first | omega | exact Nat.le_refl _⟩, ⟨by (with_reducible repeat (first | apply Kd.R_alloc | apply Kd.R_drewN | apply Kd.R_drew)); exact Kd.R_mono (Kd.R_far (p := ⟨gb192, 3, none⟩) (Kd.R_far (p := ⟨gb192, 2, none⟩) (Kd.R_far (p := ⟨gb192, 1, none⟩) (Kd.R_far (p := ⟨gb192, 0, none⟩) (Kd.R_mono HO_190000.out (fun k_ hk => (⟨hk, hk.2⟩ : _ ∧ k_ ≠ gb192))) (fun _ hk => hk.2) (.int .i64 ((rd_T60 l0_0 x9_1).f0))) (fun _ hk => hk.2) (.int .i64 ((rd_T60 l0_0 x9_1).f1))) (fun _ hk => hk.2) (.int .i64 ((rd_T60 l0_0 x9_1).f2))) (fun _ hk => hk.2) (.int .i64 ((rd_T60 l0_0 x9_1).f3))) (fun _ hk => ⟨hk.1.1, hk.1.2⟩)⟩, ⟨by (with_reducible repeat (first | apply Kd.R_alloc | apply Kd.R_drewN | apply Kd.R_drew)); exact Kd.R_mono (Kd.R_far (p := ⟨gb192, 3, none⟩) (Kd.R_far (p := ⟨gb192, 2, none⟩) (Kd.R_far (p := ⟨gb192, 1, none⟩) (Kd.R_far (p := ⟨gb192, 0, none⟩) (Kd.R_mono HO_191000.out (fun k_ hk => (⟨hk, hk.2⟩ : _ ∧ k_ ≠ gb192))) (fun _ hk => hk.2) (.int .i64 ((rd_T60 l0_0 x9_1).f0))) (fun _ hk => hk.2) (.int .i64 ((rd_T60 l0_0 x9_1).f1))) (fun _ hk => hk.2) (.int .i64 ((rd_T60 l0_0 x9_1).f2))) (fun _ hk => hk.2) (.int .i64 ((rd_T60 l0_0 x9_1).f3))) (fun _ hk => ⟨hk.1.1, hk.1.2⟩)⟩, ⟨by (with_reducible repeat (first | refine blk_drewN ?_ _ | refine blk_drew ?_ | refine blk_alloc ?_ _)); refine blk_far ?_ NB180_192.out _; refine blk_far ?_ NB180_192.out _; refine blk_far ?_ NB180_192.out _; refine blk_far ?_ NB180_192.out _; (with_reducible repeat (first | refine blk_drewN ?_ _ | refine blk_drew ?_ | refine blk_alloc ?_ _)); exact BK180.out⟩, ⟨by (with_reducible repeat (first | refine blk_drewN ?_ _ | refine blk_drew ?_ | refine blk_alloc ?_ _)); refine blk_far ?_ NB181_192.out _; refine blk_far ?_ NB181_192.out _; refine blk_far ?_ NB181_192.out _; refine blk_far ?_ NB181_192.out _; (with_reducible repeat (first | refine blk_drewN ?_ _ | refine blk_drew ?_ | refine blk_alloc ?_ _)); exact BK181.out⟩, ⟨by (with_reducible repeat (first | refine blk_drewN ?_ _ | refine blk_drew ?_ | refine blk_alloc ?_ _)); refine blk_far ?_ NB182_192.out _; refine blk_far ?_ NB182_192.out _; refine blk_far ?_ NB182_192.out _; refine blk_far ?_ NB182_192.out _; (with_reducible repeat (first | refine blk_drewN ?_ _ | refine blk_drew ?_ | refine blk_alloc ?_ _)); exact BK182.out⟩, ⟨by (with_reducible repeat (first | refine blk_drewN ?_ _ | refine blk_drew ?_ | refine blk_alloc ?_ _)); refine blk_far ?_ NB189_192.out _; refine blk_far ?_ NB189_192.out _; refine blk_far ?_ NB189_192.out _; refine blk_far ?_ NB189_192.out _; (with_reducible repeat (first | refine blk_drewN ?_ _ | refine blk_drew ?_ | refine blk_alloc ?_ _)); exact BK189.out⟩, ⟨by (with_reducible repeat (first | refine blk_drewN ?_ _ | refine blk_drew ?_ | refine blk_alloc ?_ _)); refine blk_far ?_ NB190_192.out _; refine blk_far ?_ NB190_192.out _; refine blk_far ?_ NB190_192.out _; refine blk_far ?_ NB190_192.out _; (with_reducible repeat (first | refine blk_drewN ?_ _ | refine blk_drew ?_ | refine blk_alloc ?_ _)); exact BK190.out⟩, ⟨by (with_reducible repeat (first | refine blk_drewN ?_ _ | refine blk_drew ?_ | refine blk_alloc ?_ _)); refine blk_put (cs := #[.int .i64 ((rd_T60 l0_0 x9_1).f0), .int .i64 ((rd_T60 l0_0 x9_1).f1), .int .i64 ((rd_T60 l0_0 x9_1).f2), .int .i64 0]) ?_ 3 _ rfl; refine blk_put (cs := #[.int .i64 ((rd_T60 l0_0 x9_1).f0), .int .i64 ((rd_T60 l0_0 x9_1).f1), .int .i64 0, .int .i64 0]) ?_ 2 _ rfl; refine blk_put (cs := #[.int .i64 ((rd_T60 l0_0 x9_1).f0), .int .i64 0, .int .i64 0, .int .i64 0]) ?_ 1 _ rfl; refine blk_put (cs := #[.int .i64 0, .int .i64 0, .int .i64 0, .int .i64 0]) ?_ 0 _ rfl; (with_reducible repeat (first | refine blk_drewN ?_ _ | refine blk_drew ?_ | refine blk_alloc ?_ _)); exact BK192.out⟩, ⟨by repeat (first | exact zh0 HB | refine below_set ?_ GE180.out | refine below_set ?_ GE181.out | refine below_set ?_ GE182.out | refine below_set ?_ GE189.out | refine below_set ?_ GE190.out | refine below_set ?_ GE192.out)⟩⟩
        ·rw [if_neg c46] at H
         have c46b0 : decide (x8_1 < a1) = false := decide_eq_false c46
         clear c46
         replace H := Option.bind_eq_some_iff.mp H
         obtain ⟨t193, A530, H⟩ := H
         replace H : (spec_l7Split.j1 k1 a1 x8_1 x9_1 (a1 == t193) l0_0 x190000_1 x191000_1 ((rd_T60 l0_0 x9_1).f0) ((rd_T60 l0_0 x9_1).f1) ((rd_T60 l0_0 x9_1).f2) ((rd_T60 l0_0 x9_1).f3)) = some (r1, r2) := H
         have A53 := Aside0.mk A530
         clear A530
         have H' := Aside0.mk H
         clear H
         have hnb54 := NB192_180.out
         have hnc54 := NB180_192.out
         have hnb55 := NB192_181.out
         have hnc55 := NB181_192.out
         have hnb56 := NB192_182.out
         have hnc56 := NB182_192.out
         have hnb57 := NB192_189.out
         have hnc57 := NB189_192.out
         have hnb58 := NB192_190.out
         have hnc58 := NB190_192.out
         have hcz59_0 := zc0 BK192 0 rfl
         have hcz59_1 := zc0 BK192 1 rfl
         have hcz59_2 := zc0 BK192 2 rfl
         have hcz59_3 := zc0 BK192 3 rfl
         have hfz59_0 := blk_frozen BK192.out 0
         have hfz59_1 := blk_frozen BK192.out 1
         have hfz59_2 := blk_frozen BK192.out 2
         have hfz59_3 := blk_frozen BK192.out 3
         have hnb60 := NB180_181.out
         have hnc60 := NB181_180.out
         have hnb61 := NB180_182.out
         have hnc61 := NB182_180.out
         have hnb62 := NB180_189.out
         have hnc62 := NB189_180.out
         have hnb63 := NB180_190.out
         have hnc63 := NB190_180.out
         have hcz64_0 := zc0 BK180 0 rfl
         have hfz64_0 := blk_frozen BK180.out 0
         go_wp2_with (first | (go_at_call 141; (with_reducible refine (spec_l7Length.calls k1 _ _ l0_0 t193 _ ?side1 ?side2 A53.out).mono ?_); (case side1 => exact Kd.C_below HR0_0.out (by repeat (first | exact zh0 HB | refine below_set ?_ GE180.out | refine below_set ?_ GE181.out | refine below_set ?_ GE182.out | refine below_set ?_ GE189.out | refine below_set ?_ GE190.out | refine below_set ?_ GE192.out))); (case side2 => exact HC0_0.out); rintro e w65 ⟨rfl, hb⟩; replace HO_190000 := Aside0.mk (Kd.R_below (by (with_reducible repeat (first | apply Kd.R_alloc | apply Kd.R_drewN | apply Kd.R_drew)); exact (Kd.R_mono (Kd.R_far (p := ⟨gb192, 3, none⟩) (Kd.R_far (p := ⟨gb192, 2, none⟩) (Kd.R_far (p := ⟨gb192, 1, none⟩) (Kd.R_far (p := ⟨gb192, 0, none⟩) (Kd.R_mono HO_190000.out (fun k_ hk => (⟨hk, hk.2⟩ : _ ∧ k_ ≠ gb192))) (fun _ hk => hk.2) (.int .i64 ((rd_T60 l0_0 x9_1).f0))) (fun _ hk => hk.2) (.int .i64 ((rd_T60 l0_0 x9_1).f1))) (fun _ hk => hk.2) (.int .i64 ((rd_T60 l0_0 x9_1).f2))) (fun _ hk => hk.2) (.int .i64 ((rd_T60 l0_0 x9_1).f3))) (fun _ h_ => h_.1))) hb); replace HO_191000 := Aside0.mk (Kd.R_below (by (with_reducible repeat (first | apply Kd.R_alloc | apply Kd.R_drewN | apply Kd.R_drew)); exact (Kd.R_mono (Kd.R_far (p := ⟨gb192, 3, none⟩) (Kd.R_far (p := ⟨gb192, 2, none⟩) (Kd.R_far (p := ⟨gb192, 1, none⟩) (Kd.R_far (p := ⟨gb192, 0, none⟩) (Kd.R_mono HO_191000.out (fun k_ hk => (⟨hk, hk.2⟩ : _ ∧ k_ ≠ gb192))) (fun _ hk => hk.2) (.int .i64 ((rd_T60 l0_0 x9_1).f0))) (fun _ hk => hk.2) (.int .i64 ((rd_T60 l0_0 x9_1).f1))) (fun _ hk => hk.2) (.int .i64 ((rd_T60 l0_0 x9_1).f2))) (fun _ hk => hk.2) (.int .i64 ((rd_T60 l0_0 x9_1).f3))) (fun _ h_ => h_.1))) hb); replace BK180 := Aside0.mk (blk_below (g := gb180) (o := .cells #[.slice (some ad191) l0_0.length c0_0] 32 (0, 0)) (by (with_reducible repeat (first | refine blk_drewN ?_ _ | refine blk_drew ?_ | refine blk_alloc ?_ _)); refine blk_far ?_ NB180_192.out _; refine blk_far ?_ NB180_192.out _; refine blk_far ?_ NB180_192.out _; refine blk_far ?_ NB180_192.out _; (with_reducible repeat (first | refine blk_drewN ?_ _ | refine blk_drew ?_ | refine blk_alloc ?_ _)); exact BK180.out) hb); replace BK181 := Aside0.mk (blk_below (g := gb181) (o := .cells #[.slice none 0 0] 32 (0, 0)) (by (with_reducible repeat (first | refine blk_drewN ?_ _ | refine blk_drew ?_ | refine blk_alloc ?_ _)); refine blk_far ?_ NB181_192.out _; refine blk_far ?_ NB181_192.out _; refine blk_far ?_ NB181_192.out _; refine blk_far ?_ NB181_192.out _; (with_reducible repeat (first | refine blk_drewN ?_ _ | refine blk_drew ?_ | refine blk_alloc ?_ _)); exact BK181.out) hb); replace BK182 := Aside0.mk (blk_below (g := gb182) (o := .cells #[.slice none 0 0] 32 (0, 0)) (by (with_reducible repeat (first | refine blk_drewN ?_ _ | refine blk_drew ?_ | refine blk_alloc ?_ _)); refine blk_far ?_ NB182_192.out _; refine blk_far ?_ NB182_192.out _; refine blk_far ?_ NB182_192.out _; refine blk_far ?_ NB182_192.out _; (with_reducible repeat (first | refine blk_drewN ?_ _ | refine blk_drew ?_ | refine blk_alloc ?_ _)); exact BK182.out) hb); replace BK189 := Aside0.mk (blk_below (g := gb189) (o := .cells #[u190000] 32 (0, 0)) (by (with_reducible repeat (first | refine blk_drewN ?_ _ | refine blk_drew ?_ | refine blk_alloc ?_ _)); refine blk_far ?_ NB189_192.out _; refine blk_far ?_ NB189_192.out _; refine blk_far ?_ NB189_192.out _; refine blk_far ?_ NB189_192.out _; (with_reducible repeat (first | refine blk_drewN ?_ _ | refine blk_drew ?_ | refine blk_alloc ?_ _)); exact BK189.out) hb); replace BK190 := Aside0.mk (blk_below (g := gb190) (o := .cells #[u191000] 32 (0, 0)) (by (with_reducible repeat (first | refine blk_drewN ?_ _ | refine blk_drew ?_ | refine blk_alloc ?_ _)); refine blk_far ?_ NB190_192.out _; refine blk_far ?_ NB190_192.out _; refine blk_far ?_ NB190_192.out _; refine blk_far ?_ NB190_192.out _; (with_reducible repeat (first | refine blk_drewN ?_ _ | refine blk_drew ?_ | refine blk_alloc ?_ _)); exact BK190.out) hb); replace BK192 := Aside0.mk (blk_below (g := gb192) (o := .cells #[.int .i64 ((rd_T60 l0_0 x9_1).f0), .int .i64 ((rd_T60 l0_0 x9_1).f1), .int .i64 ((rd_T60 l0_0 x9_1).f2), .int .i64 ((rd_T60 l0_0 x9_1).f3)] 60 (0, 0)) (by (with_reducible repeat (first | refine blk_drewN ?_ _ | refine blk_drew ?_ | refine blk_alloc ?_ _)); refine blk_put (cs := #[.int .i64 ((rd_T60 l0_0 x9_1).f0), .int .i64 ((rd_T60 l0_0 x9_1).f1), .int .i64 ((rd_T60 l0_0 x9_1).f2), .int .i64 0]) ?_ 3 _ rfl; refine blk_put (cs := #[.int .i64 ((rd_T60 l0_0 x9_1).f0), .int .i64 ((rd_T60 l0_0 x9_1).f1), .int .i64 0, .int .i64 0]) ?_ 2 _ rfl; refine blk_put (cs := #[.int .i64 ((rd_T60 l0_0 x9_1).f0), .int .i64 0, .int .i64 0, .int .i64 0]) ?_ 1 _ rfl; refine blk_put (cs := #[.int .i64 0, .int .i64 0, .int .i64 0, .int .i64 0]) ?_ 0 _ rfl; (with_reducible repeat (first | refine blk_drewN ?_ _ | refine blk_drew ?_ | refine blk_alloc ?_ _)); exact BK192.out) hb); replace HB := Aside0.mk (below_step (by repeat (first | exact zh0 HB | refine below_set ?_ GE180.out | refine below_set ?_ GE181.out | refine below_set ?_ GE182.out | refine below_set ?_ GE189.out | refine below_set ?_ GE190.out | refine below_set ?_ GE192.out)) hb); (try clear hb); (try clear hb2); (try clear hk); (try clear hi)))
         go_meet
         case rel => exact ⟨_, ((a1 == t193)), (by first | rfl | (simp; done) | (simp [*]; done)), H', ⟨by have := HK1.out; first | omega | exact Nat.le_refl _⟩, ⟨zr0 HO_190000⟩, ⟨zr0 HO_191000⟩, ⟨zk0 BK180⟩, ⟨zk0 BK181⟩, ⟨zk0 BK182⟩, ⟨zk0 BK189⟩, ⟨zk0 BK190⟩, ⟨zk0 BK192⟩, ⟨by repeat (first | exact zh0 HB | refine below_set ?_ GE180.out | refine below_set ?_ GE181.out | refine below_set ?_ GE182.out | refine below_set ?_ GE189.out | refine below_set ?_ GE190.out | refine below_set ?_ GE192.out)⟩⟩
      ·rw [if_neg c38] at H
       have c38b0 : decide ((wrap64 (x8_1 + ((rd_T60 l0_0 x9_1).f2))) ≤ a1) = false := decide_eq_false c38
       clear c38
       (first | rw [c38b0] | (simp only [i64_w, i32_w]; rw [c38b0]) | skip)
       have H' := Aside0.mk H
       clear H
       have hnb66 := NB192_180.out
       have hnc66 := NB180_192.out
       have hnb67 := NB192_181.out
       have hnc67 := NB181_192.out
       have hnb68 := NB192_182.out
       have hnc68 := NB182_192.out
       have hnb69 := NB192_189.out
       have hnc69 := NB189_192.out
       have hnb70 := NB192_190.out
       have hnc70 := NB190_192.out
       have hcz71_0 := zc0 BK192 0 rfl
       have hcz71_1 := zc0 BK192 1 rfl
       have hcz71_2 := zc0 BK192 2 rfl
       have hcz71_3 := zc0 BK192 3 rfl
       have hfz71_0 := blk_frozen BK192.out 0
       have hfz71_1 := blk_frozen BK192.out 1
       have hfz71_2 := blk_frozen BK192.out 2
       have hfz71_3 := blk_frozen BK192.out 3
       go_wp2
       go_meet
       case rel => exact ⟨_, (false), (by first | rfl | (simp; done) | (simp [*]; done)), H', ⟨by have := HK1.out; first | omega | exact Nat.le_refl _⟩, ⟨by (with_reducible repeat (first | apply Kd.R_alloc | apply Kd.R_drewN | apply Kd.R_drew)); exact Kd.R_mono (Kd.R_far (p := ⟨gb192, 3, none⟩) (Kd.R_far (p := ⟨gb192, 2, none⟩) (Kd.R_far (p := ⟨gb192, 1, none⟩) (Kd.R_far (p := ⟨gb192, 0, none⟩) (Kd.R_mono HO_190000.out (fun k_ hk => (⟨hk, hk.2⟩ : _ ∧ k_ ≠ gb192))) (fun _ hk => hk.2) (.int .i64 ((rd_T60 l0_0 x9_1).f0))) (fun _ hk => hk.2) (.int .i64 ((rd_T60 l0_0 x9_1).f1))) (fun _ hk => hk.2) (.int .i64 ((rd_T60 l0_0 x9_1).f2))) (fun _ hk => hk.2) (.int .i64 ((rd_T60 l0_0 x9_1).f3))) (fun _ hk => ⟨hk.1.1, hk.1.2⟩)⟩, ⟨by (with_reducible repeat (first | apply Kd.R_alloc | apply Kd.R_drewN | apply Kd.R_drew)); exact Kd.R_mono (Kd.R_far (p := ⟨gb192, 3, none⟩) (Kd.R_far (p := ⟨gb192, 2, none⟩) (Kd.R_far (p := ⟨gb192, 1, none⟩) (Kd.R_far (p := ⟨gb192, 0, none⟩) (Kd.R_mono HO_191000.out (fun k_ hk => (⟨hk, hk.2⟩ : _ ∧ k_ ≠ gb192))) (fun _ hk => hk.2) (.int .i64 ((rd_T60 l0_0 x9_1).f0))) (fun _ hk => hk.2) (.int .i64 ((rd_T60 l0_0 x9_1).f1))) (fun _ hk => hk.2) (.int .i64 ((rd_T60 l0_0 x9_1).f2))) (fun _ hk => hk.2) (.int .i64 ((rd_T60 l0_0 x9_1).f3))) (fun _ hk => ⟨hk.1.1, hk.1.2⟩)⟩, ⟨by (with_reducible repeat (first | refine blk_drewN ?_ _ | refine blk_drew ?_ | refine blk_alloc ?_ _)); refine blk_far ?_ NB180_192.out _; refine blk_far ?_ NB180_192.out _; refine blk_far ?_ NB180_192.out _; refine blk_far ?_ NB180_192.out _; (with_reducible repeat (first | refine blk_drewN ?_ _ | refine blk_drew ?_ | refine blk_alloc ?_ _)); exact BK180.out⟩, ⟨by (with_reducible repeat (first | refine blk_drewN ?_ _ | refine blk_drew ?_ | refine blk_alloc ?_ _)); refine blk_far ?_ NB181_192.out _; refine blk_far ?_ NB181_192.out _; refine blk_far ?_ NB181_192.out _; refine blk_far ?_ NB181_192.out _; (with_reducible repeat (first | refine blk_drewN ?_ _ | refine blk_drew ?_ | refine blk_alloc ?_ _)); exact BK181.out⟩, ⟨by (with_reducible repeat (first | refine blk_drewN ?_ _ | refine blk_drew ?_ | refine blk_alloc ?_ _)); refine blk_far ?_ NB182_192.out _; refine blk_far ?_ NB182_192.out _; refine blk_far ?_ NB182_192.out _; refine blk_far ?_ NB182_192.out _; (with_reducible repeat (first | refine blk_drewN ?_ _ | refine blk_drew ?_ | refine blk_alloc ?_ _)); exact BK182.out⟩, ⟨by (with_reducible repeat (first | refine blk_drewN ?_ _ | refine blk_drew ?_ | refine blk_alloc ?_ _)); refine blk_far ?_ NB189_192.out _; refine blk_far ?_ NB189_192.out _; refine blk_far ?_ NB189_192.out _; refine blk_far ?_ NB189_192.out _; (with_reducible repeat (first | refine blk_drewN ?_ _ | refine blk_drew ?_ | refine blk_alloc ?_ _)); exact BK189.out⟩, ⟨by (with_reducible repeat (first | refine blk_drewN ?_ _ | refine blk_drew ?_ | refine blk_alloc ?_ _)); refine blk_far ?_ NB190_192.out _; refine blk_far ?_ NB190_192.out _; refine blk_far ?_ NB190_192.out _; refine blk_far ?_ NB190_192.out _; (with_reducible repeat (first | refine blk_drewN ?_ _ | refine blk_drew ?_ | refine blk_alloc ?_ _)); exact BK190.out⟩, ⟨by (with_reducible repeat (first | refine blk_drewN ?_ _ | refine blk_drew ?_ | refine blk_alloc ?_ _)); refine blk_put (cs := #[.int .i64 ((rd_T60 l0_0 x9_1).f0), .int .i64 ((rd_T60 l0_0 x9_1).f1), .int .i64 ((rd_T60 l0_0 x9_1).f2), .int .i64 0]) ?_ 3 _ rfl; refine blk_put (cs := #[.int .i64 ((rd_T60 l0_0 x9_1).f0), .int .i64 ((rd_T60 l0_0 x9_1).f1), .int .i64 0, .int .i64 0]) ?_ 2 _ rfl; refine blk_put (cs := #[.int .i64 ((rd_T60 l0_0 x9_1).f0), .int .i64 0, .int .i64 0, .int .i64 0]) ?_ 1 _ rfl; refine blk_put (cs := #[.int .i64 0, .int .i64 0, .int .i64 0, .int .i64 0]) ?_ 0 _ rfl; (with_reducible repeat (first | refine blk_drewN ?_ _ | refine blk_drew ?_ | refine blk_alloc ?_ _)); exact BK192.out⟩, ⟨by repeat (first | exact zh0 HB | refine below_set ?_ GE180.out | refine below_set ?_ GE181.out | refine below_set ?_ GE182.out | refine below_set ?_ GE189.out | refine below_set ?_ GE190.out | refine below_set ?_ GE192.out)⟩⟩
     case rest =>
      clear HC25
      try clear c1
      try clear p1
      try clear q1
      try clear hx1
      try clear c2
      try clear p2
      try clear c3
      try clear c4
      try clear c5
      try clear c6
      try clear p6
      try clear c7
      try clear c9
      try clear c14
      try clear c15
      try clear c16
      try clear c17
      try clear c19
      try clear p19
      try clear q19
      try clear hx19
      try clear c20
      try clear c21
      try clear c23
      try clear c23b0
      try clear c24
      try clear c24b0
      try clear c26
      try clear c27
      try clear c28
      try clear c29
      try clear c32
      try clear c33
      try clear c34
      try clear c35
      try clear c36
      try clear c38
      try clear c38b0
      try clear c39
      try clear c39b0
      try clear c40
      try clear c41
      try clear c42
      try clear c43
      try clear c44
      try clear c46
      try clear c46b0
      try clear c47
      try clear c48
      try clear c49
      try clear c50
      try clear c51
      try clear c54
      try clear c55
      try clear c56
      try clear c57
      try clear c58
      try clear c60
      try clear c61
      try clear c62
      try clear c63
      try clear p64
      try clear c66
      try clear c67
      try clear c68
      try clear c69
      try clear c70
      try clear hcz18_0
      try clear hcz22_0
      try clear hcz30_0
      try clear hcz37_0
      try clear hcz37_1
      try clear hcz37_2
      try clear hcz37_3
      try clear hcz45_0
      try clear hcz45_1
      try clear hcz45_2
      try clear hcz45_3
      try clear hcz52_0
      try clear hcz52_1
      try clear hcz52_2
      try clear hcz52_3
      try clear hcz59_0
      try clear hcz59_1
      try clear hcz59_2
      try clear hcz59_3
      try clear hcz64_0
      try clear hcz71_0
      try clear hcz71_1
      try clear hcz71_2
      try clear hcz71_3
      try clear hfz18_0
      try clear hfz22_0
      try clear hfz30_0
      try clear hfz37_0
      try clear hfz37_1
      try clear hfz37_2
      try clear hfz37_3
      try clear hfz45_0
      try clear hfz45_1
      try clear hfz45_2
      try clear hfz45_3
      try clear hfz52_0
      try clear hfz52_1
      try clear hfz52_2
      try clear hfz52_3
      try clear hfz59_0
      try clear hfz59_1
      try clear hfz59_2
      try clear hfz59_3
      try clear hfz64_0
      try clear hfz71_0
      try clear hfz71_1
      try clear hfz71_2
      try clear hfz71_3
      try clear hx191_0
      try clear hx191_1
      try clear hx191_2
      try clear hx191_3
      try clear p191
      try clear p2
      try clear q191
      obtain ⟨kq, x54_24, rfl, HA, HJ24, HO_190000, HO_191000, BK180, BK181, BK182, BK189, BK190, BK192, HB⟩ := hcut
      cases kq with
      | zero => exact absurd HA.out (by simp [spec_l7Split.j1])
      | succ kj24 =>
       have H := HA.out
       clear HA
       simp only [spec_l7Split.j1] at H
       by_cases c72 : x54_24 = true
       ·subst c72
        have H1 : (if x190000_1.length < 4398046511104 then (spec_l7Split.l0 kj24 a1 (wrap64 (x8_1 + ((rd_T60 l0_0 x9_1).f2))) (wrap64 (x9_1 + 1)) l0_0 (x190000_1 ++ [(⟨((rd_T60 l0_0 x9_1).f0), ((rd_T60 l0_0 x9_1).f1), ((rd_T60 l0_0 x9_1).f2), ((rd_T60 l0_0 x9_1).f3)⟩ : S60)]) x191000_1) else (none)) = some (r1, r2) := by rw [if_pos rfl] at H; exact H
        clear H
        have H := H1
        clear H1
        by_cases c73 : x190000_1.length < 4398046511104
        ·rw [if_pos c73] at H
         have LMc73 := Aside0.mk c73
         clear c73
         obtain ⟨y194, hy194⟩ : ∃ y_ : List (S60), y_ = (x190000_1 ++ [(⟨((rd_T60 l0_0 x9_1).f0), ((rd_T60 l0_0 x9_1).f1), ((rd_T60 l0_0 x9_1).f2), ((rd_T60 l0_0 x9_1).f3)⟩ : S60)]) := ⟨_, rfl⟩
         replace H : (spec_l7Split.l0 kj24 a1 (wrap64 (x8_1 + ((rd_T60 l0_0 x9_1).f2))) (wrap64 (x9_1 + 1)) l0_0 y194 x191000_1) = some (r1, r2) := by first | (rw [hy194]; with_reducible exact H) | (have H2_ := (Option.bind_some _ _).symm.trans H; rw [hy194]; with_reducible exact H2_) | (have H2_ := (Option.bind_some _ _).symm.trans H; with_reducible exact H2_) | with_reducible exact H | (rw [hy194]; exact H) | exact H
         have Ny194 := Aside0.mk hy194
         clear hy194
         have H' := Aside0.mk H
         clear H
         have hnb74 := NB189_180.out
         have hnc74 := NB180_189.out
         have hnb75 := NB189_181.out
         have hnc75 := NB181_189.out
         have hnb76 := NB189_182.out
         have hnc76 := NB182_189.out
         have hnb77 := NB189_190.out
         have hnc77 := NB190_189.out
         have hnb78 := NB189_192.out
         have hnc78 := NB192_189.out
         have hcz79_0 := zc0 BK189 0 rfl
         have hfz79_0 := blk_frozen BK189.out 0
         have hnb80 := NB192_180.out
         have hnc80 := NB180_192.out
         have hnb81 := NB192_181.out
         have hnc81 := NB181_192.out
         have hnb82 := NB192_182.out
         have hnc82 := NB182_192.out
         have hnb83 := NB192_190.out
         have hnc83 := NB190_192.out
         have hcz84_0 := zc0 BK192 0 rfl
         have hcz84_1 := zc0 BK192 1 rfl
         have hcz84_2 := zc0 BK192 2 rfl
         have hcz84_3 := zc0 BK192 3 rfl
         have hfz84_0 := blk_frozen BK192.out 0
         have hfz84_1 := blk_frozen BK192.out 1
         have hfz84_2 := blk_frozen BK192.out 2
         have hfz84_3 := blk_frozen BK192.out 3
         go_wp2_with (first | ((with_reducible refine gate_builtin (b := .append) (xs := #[.tmp 78, .tmp 80]) rfl ?_); at_builtin; refine Kd.R_append k60 (w0 := w) w.heap.size rfl (.tmp 78) (.tmp 80) 30 60 (.agg #[(.int .i64 0), (.int .i64 0), (.int .i64 0), (.int .i64 0)]) 32 rfl Try.underlying30 info60 rfl (by decide) (by omega) u190000 x190000_1 (⟨((rd_T60 l0_0 x9_1).f0), ((rd_T60 l0_0 x9_1).f1), ((rd_T60 l0_0 x9_1).f2), ((rd_T60 l0_0 x9_1).f3)⟩ : S60) [.int .i64 ((rd_T60 l0_0 x9_1).f0), .int .i64 ((rd_T60 l0_0 x9_1).f1), .int .i64 ((rd_T60 l0_0 x9_1).f2), .int .i64 ((rd_T60 l0_0 x9_1).f3)] (fun k_ => some k_ ≠ (u191000 : Value).ownBlock ∧ k_ ≠ gb192) (fun _ => False) rfl rfl ?aP (fun _ hk => hk.elim) ?aF ?aO ?aB ?aS ?aL ?_; (case aP => exact k60_mkM _ _ _ (⟨((rd_T60 l0_0 x9_1).f0), ((rd_T60 l0_0 x9_1).f1), ((rd_T60 l0_0 x9_1).f2), ((rd_T60 l0_0 x9_1).f3)⟩ : S60)); (case aB => exact (by repeat (first | exact zh0 HB | refine below_set ?_ GE180.out | refine below_set ?_ GE181.out | refine below_set ?_ GE182.out | refine below_set ?_ GE189.out | refine below_set ?_ GE190.out | refine below_set ?_ GE192.out))); (case aF => exact (fun k_ hk => ⟨Kd.fresh' (Kd.R_lt (zr0 HO_191000)) k_ hk, Kd.freshB (g := gb192) (o := .cells #[.int .i64 ((rd_T60 l0_0 x9_1).f0), .int .i64 ((rd_T60 l0_0 x9_1).f1), .int .i64 ((rd_T60 l0_0 x9_1).f2), .int .i64 ((rd_T60 l0_0 x9_1).f3)] 60 (0, 0)) (zk0 BK192) k_ hk⟩)); (case aO => exact (zr0 HO_190000)); (case aS => exact (below_size (by repeat (first | exact zh0 HB | refine below_set ?_ GE180.out | refine below_set ?_ GE181.out | refine below_set ?_ GE182.out | refine below_set ?_ GE189.out | refine below_set ?_ GE190.out | refine below_set ?_ GE192.out)))); (case aL => have := LMc73.out; omega); intro v195 w85 ho hb hg hat; rw [← Ny194.out] at ho; have n0_ := Aside0.mk (Kd.R_after (ok := (fun k_ => k_ ≠ gb192)) (by (with_reducible repeat (first | apply Kd.R_alloc | apply Kd.R_drewN | apply Kd.R_drew)); exact Kd.R_mono HO_191000.out (fun _ hk => ⟨hk.2, hk.1⟩)) hg hat); have n1_ := Aside0.mk (blk_grown (g := gb180) (o := .cells #[.slice (some ad191) l0_0.length c0_0] 32 (0, 0)) (zk0 BK180) hg (Kd.R_ne HO_190000.out BK180.out (by decide))); have n2_ := Aside0.mk (blk_grown (g := gb181) (o := .cells #[.slice none 0 0] 32 (0, 0)) (zk0 BK181) hg (Kd.R_ne HO_190000.out BK181.out (by decide))); have n3_ := Aside0.mk (blk_grown (g := gb182) (o := .cells #[.slice none 0 0] 32 (0, 0)) (zk0 BK182) hg (Kd.R_ne HO_190000.out BK182.out (by decide))); have n4_ := Aside0.mk (blk_grown (g := gb189) (o := .cells #[u190000] 32 (0, 0)) (zk0 BK189) hg (Kd.R_ne HO_190000.out BK189.out (by decide))); have n5_ := Aside0.mk (blk_grown (g := gb190) (o := .cells #[u191000] 32 (0, 0)) (zk0 BK190) hg (Kd.R_ne HO_190000.out BK190.out (by decide))); have n6_ := Aside0.mk (blk_grown (g := gb192) (o := .cells #[.int .i64 ((rd_T60 l0_0 x9_1).f0), .int .i64 ((rd_T60 l0_0 x9_1).f1), .int .i64 ((rd_T60 l0_0 x9_1).f2), .int .i64 ((rd_T60 l0_0 x9_1).f3)] 60 (0, 0)) (zk0 BK192) hg (Kd.R_away HO_190000.out (fun _ hk => hk.2))); have n7_ := Aside0.mk (hb); have n8_ := Aside0.mk (ho); clear HO_191000; clear BK180; clear BK181; clear BK182; clear BK189; clear BK190; clear BK192; clear HB; clear HO_190000; have HO_191000 := n0_; have BK180 := n1_; have BK181 := n2_; have BK182 := n3_; have BK189 := n4_; have BK190 := n5_; have BK192 := n6_; have HB := n7_; have HO196 := n8_; clear n0_ n1_ n2_ n3_ n4_ n5_ n6_ n7_ n8_; clear ho hb hg hat; obtain ⟨Ao86, co86, eo86⟩ := Kd.R_slice HO196.out; subst eo86; have hcz87_0 := zc0 BK189 0 rfl; have hfz87_0 := blk_frozen BK189.out 0; have hcz88_0 := zc0 BK192 0 rfl; have hcz88_1 := zc0 BK192 1 rfl; have hcz88_2 := zc0 BK192 2 rfl; have hcz88_3 := zc0 BK192 3 rfl; have hfz88_0 := blk_frozen BK192.out 0; have hfz88_1 := blk_frozen BK192.out 1; have hfz88_2 := blk_frozen BK192.out 2; have hfz88_3 := blk_frozen BK192.out 3))
         go_roundg kj24
         case measure => have := HK1.out; have := HJ24.out; omega
         case rel => exact ⟨(wrap64 (x8_1 + ((rd_T60 l0_0 x9_1).f2))), (wrap64 (x9_1 + 1)), (y194), (x191000_1), (.slice Ao86 y194.length co86), (u191000), (by first | rfl | (simp; done) | (simp [*]; done)), (by first | rfl | (simp; done) | (simp [*]; done)), H', ⟨by have := HK1.out; have := HJ24.out; omega⟩, ⟨by (with_reducible repeat (first | apply Kd.R_alloc | apply Kd.R_drewN | apply Kd.R_drew)); exact Kd.R_mono (Kd.R_far (p := ⟨gb189, 0, none⟩) (Kd.R_types HO196.out BK189.out (by decide)) (fun _ hk => hk.2) (.slice Ao86 y194.length co86)) (fun _ hk => hk.1.1)⟩, ⟨by (with_reducible repeat (first | apply Kd.R_alloc | apply Kd.R_drewN | apply Kd.R_drew)); exact Kd.R_mono (Kd.R_far (p := ⟨gb189, 0, none⟩) (Kd.R_types HO_191000.out BK189.out (by decide)) (fun _ hk => hk.2) (.slice Ao86 y194.length co86)) (fun _ hk => hk.1.2)⟩, ⟨by (with_reducible repeat (first | refine blk_drewN ?_ _ | refine blk_drew ?_ | refine blk_alloc ?_ _)); refine blk_far ?_ NB180_189.out _; (with_reducible repeat (first | refine blk_drewN ?_ _ | refine blk_drew ?_ | refine blk_alloc ?_ _)); exact BK180.out⟩, ⟨by (with_reducible repeat (first | refine blk_drewN ?_ _ | refine blk_drew ?_ | refine blk_alloc ?_ _)); refine blk_far ?_ NB181_189.out _; (with_reducible repeat (first | refine blk_drewN ?_ _ | refine blk_drew ?_ | refine blk_alloc ?_ _)); exact BK181.out⟩, ⟨by (with_reducible repeat (first | refine blk_drewN ?_ _ | refine blk_drew ?_ | refine blk_alloc ?_ _)); refine blk_far ?_ NB182_189.out _; (with_reducible repeat (first | refine blk_drewN ?_ _ | refine blk_drew ?_ | refine blk_alloc ?_ _)); exact BK182.out⟩, ⟨by (with_reducible repeat (first | refine blk_drewN ?_ _ | refine blk_drew ?_ | refine blk_alloc ?_ _)); refine blk_put (cs := #[u190000]) ?_ 0 _ rfl; (with_reducible repeat (first | refine blk_drewN ?_ _ | refine blk_drew ?_ | refine blk_alloc ?_ _)); exact BK189.out⟩, ⟨by (with_reducible repeat (first | refine blk_drewN ?_ _ | refine blk_drew ?_ | refine blk_alloc ?_ _)); refine blk_far ?_ NB190_189.out _; (with_reducible repeat (first | refine blk_drewN ?_ _ | refine blk_drew ?_ | refine blk_alloc ?_ _)); exact BK190.out⟩, ⟨by repeat (first | exact zh0 HB | refine below_set ?_ GE180.out | refine below_set ?_ GE181.out | refine below_set ?_ GE182.out | refine below_set ?_ GE189.out | refine below_set ?_ GE190.out | refine below_set ?_ GE192.out)⟩⟩
        ·rw [if_neg c73] at H
         exact absurd H (by simp)
       ·replace c72 := Bool.eq_false_iff.mpr c72
        subst c72
        have H1 : (if x8_1 ≥ a1 then (if x191000_1.length < 4398046511104 then (spec_l7Split.l0 kj24 a1 (wrap64 (x8_1 + ((rd_T60 l0_0 x9_1).f2))) (wrap64 (x9_1 + 1)) l0_0 x190000_1 (x191000_1 ++ [(⟨((rd_T60 l0_0 x9_1).f0), ((rd_T60 l0_0 x9_1).f1), ((rd_T60 l0_0 x9_1).f2), ((rd_T60 l0_0 x9_1).f3)⟩ : S60)])) else (none)) else ((spec_l2Slice.f ((rd_T60 l0_0 x9_1).f0) ((rd_T60 l0_0 x9_1).f1) ((rd_T60 l0_0 x9_1).f2) ((rd_T60 l0_0 x9_1).f3) 0 (wrap64 (a1 - x8_1)) (wrap64 (a1 - x8_1))).bind fun bt200 => (if x190000_1.length < 4398046511104 then ((spec_l2Slice.f ((rd_T60 l0_0 x9_1).f0) ((rd_T60 l0_0 x9_1).f1) ((rd_T60 l0_0 x9_1).f2) ((rd_T60 l0_0 x9_1).f3) (wrap64 (a1 - x8_1)) ((rd_T60 l0_0 x9_1).f2) ((rd_T60 l0_0 x9_1).f3)).bind fun bt207 => (if x191000_1.length < 4398046511104 then (spec_l7Split.l0 kj24 a1 (wrap64 (x8_1 + ((rd_T60 l0_0 x9_1).f2))) (wrap64 (x9_1 + 1)) l0_0 (x190000_1 ++ [(⟨bt200.1, bt200.2.1, bt200.2.2.1, bt200.2.2.2⟩ : S60)]) (x191000_1 ++ [(⟨bt207.1, bt207.2.1, bt207.2.2.1, bt207.2.2.2⟩ : S60)])) else (none))) else (none)))) = some (r1, r2) := by rw [if_neg (show ¬ (false = true) by decide)] at H; exact H
        clear H
        have H := H1
        clear H1
        by_cases c89 : x8_1 ≥ a1
        ·rw [if_pos c89] at H
         have c89b0 : decide (a1 ≤ x8_1) = true := decide_eq_true c89
         clear c89
         by_cases c90 : x191000_1.length < 4398046511104
         ·rw [if_pos c90] at H
          have LMc90 := Aside0.mk c90
          clear c90
          obtain ⟨y197, hy197⟩ : ∃ y_ : List (S60), y_ = (x191000_1 ++ [(⟨((rd_T60 l0_0 x9_1).f0), ((rd_T60 l0_0 x9_1).f1), ((rd_T60 l0_0 x9_1).f2), ((rd_T60 l0_0 x9_1).f3)⟩ : S60)]) := ⟨_, rfl⟩
          replace H : (spec_l7Split.l0 kj24 a1 (wrap64 (x8_1 + ((rd_T60 l0_0 x9_1).f2))) (wrap64 (x9_1 + 1)) l0_0 x190000_1 y197) = some (r1, r2) := by first | (rw [hy197]; with_reducible exact H) | (have H2_ := (Option.bind_some _ _).symm.trans H; rw [hy197]; with_reducible exact H2_) | (have H2_ := (Option.bind_some _ _).symm.trans H; with_reducible exact H2_) | with_reducible exact H | (rw [hy197]; exact H) | exact H
          have Ny197 := Aside0.mk hy197
          clear hy197
          have H' := Aside0.mk H
          clear H
          have hnb91 := NB190_180.out
          have hnc91 := NB180_190.out
          have hnb92 := NB190_181.out
          have hnc92 := NB181_190.out
          have hnb93 := NB190_182.out
          have hnc93 := NB182_190.out
          have hnb94 := NB190_189.out
          have hnc94 := NB189_190.out
          have hnb95 := NB190_192.out
          have hnc95 := NB192_190.out
          have hcz96_0 := zc0 BK190 0 rfl
          have hfz96_0 := blk_frozen BK190.out 0
          have hnb97 := NB192_180.out
          have hnc97 := NB180_192.out
          have hnb98 := NB192_181.out
          have hnc98 := NB181_192.out
          have hnb99 := NB192_182.out
          have hnc99 := NB182_192.out
          have hnb100 := NB192_189.out
          have hnc100 := NB189_192.out
          have hcz101_0 := zc0 BK192 0 rfl
          have hcz101_1 := zc0 BK192 1 rfl
          have hcz101_2 := zc0 BK192 2 rfl
          have hcz101_3 := zc0 BK192 3 rfl
          have hfz101_0 := blk_frozen BK192.out 0
          have hfz101_1 := blk_frozen BK192.out 1
          have hfz101_2 := blk_frozen BK192.out 2
          have hfz101_3 := blk_frozen BK192.out 3
          go_wp2_with (first | ((with_reducible refine gate_builtin (b := .append) (xs := #[.tmp 88, .tmp 90]) rfl ?_); at_builtin; refine Kd.R_append k60 (w0 := w) w.heap.size rfl (.tmp 88) (.tmp 90) 30 60 (.agg #[(.int .i64 0), (.int .i64 0), (.int .i64 0), (.int .i64 0)]) 32 rfl Try.underlying30 info60 rfl (by decide) (by omega) u191000 x191000_1 (⟨((rd_T60 l0_0 x9_1).f0), ((rd_T60 l0_0 x9_1).f1), ((rd_T60 l0_0 x9_1).f2), ((rd_T60 l0_0 x9_1).f3)⟩ : S60) [.int .i64 ((rd_T60 l0_0 x9_1).f0), .int .i64 ((rd_T60 l0_0 x9_1).f1), .int .i64 ((rd_T60 l0_0 x9_1).f2), .int .i64 ((rd_T60 l0_0 x9_1).f3)] (fun k_ => some k_ ≠ (u190000 : Value).ownBlock ∧ k_ ≠ gb192) (fun _ => False) rfl rfl ?aP (fun _ hk => hk.elim) ?aF ?aO ?aB ?aS ?aL ?_; (case aP => exact k60_mkM _ _ _ (⟨((rd_T60 l0_0 x9_1).f0), ((rd_T60 l0_0 x9_1).f1), ((rd_T60 l0_0 x9_1).f2), ((rd_T60 l0_0 x9_1).f3)⟩ : S60)); (case aB => exact (by repeat (first | exact zh0 HB | refine below_set ?_ GE180.out | refine below_set ?_ GE181.out | refine below_set ?_ GE182.out | refine below_set ?_ GE189.out | refine below_set ?_ GE190.out | refine below_set ?_ GE192.out))); (case aF => exact (fun k_ hk => ⟨Kd.fresh' (Kd.R_lt (zr0 HO_190000)) k_ hk, Kd.freshB (g := gb192) (o := .cells #[.int .i64 ((rd_T60 l0_0 x9_1).f0), .int .i64 ((rd_T60 l0_0 x9_1).f1), .int .i64 ((rd_T60 l0_0 x9_1).f2), .int .i64 ((rd_T60 l0_0 x9_1).f3)] 60 (0, 0)) (zk0 BK192) k_ hk⟩)); (case aO => exact (zr0 HO_191000)); (case aS => exact (below_size (by repeat (first | exact zh0 HB | refine below_set ?_ GE180.out | refine below_set ?_ GE181.out | refine below_set ?_ GE182.out | refine below_set ?_ GE189.out | refine below_set ?_ GE190.out | refine below_set ?_ GE192.out)))); (case aL => have := LMc90.out; omega); intro v198 w102 ho hb hg hat; rw [← Ny197.out] at ho; have n0_ := Aside0.mk (Kd.R_after (ok := (fun k_ => k_ ≠ gb192)) (by (with_reducible repeat (first | apply Kd.R_alloc | apply Kd.R_drewN | apply Kd.R_drew)); exact Kd.R_mono HO_190000.out (fun _ hk => ⟨hk.2, hk.1⟩)) hg hat); have n1_ := Aside0.mk (blk_grown (g := gb180) (o := .cells #[.slice (some ad191) l0_0.length c0_0] 32 (0, 0)) (zk0 BK180) hg (Kd.R_ne HO_191000.out BK180.out (by decide))); have n2_ := Aside0.mk (blk_grown (g := gb181) (o := .cells #[.slice none 0 0] 32 (0, 0)) (zk0 BK181) hg (Kd.R_ne HO_191000.out BK181.out (by decide))); have n3_ := Aside0.mk (blk_grown (g := gb182) (o := .cells #[.slice none 0 0] 32 (0, 0)) (zk0 BK182) hg (Kd.R_ne HO_191000.out BK182.out (by decide))); have n4_ := Aside0.mk (blk_grown (g := gb189) (o := .cells #[u190000] 32 (0, 0)) (zk0 BK189) hg (Kd.R_ne HO_191000.out BK189.out (by decide))); have n5_ := Aside0.mk (blk_grown (g := gb190) (o := .cells #[u191000] 32 (0, 0)) (zk0 BK190) hg (Kd.R_ne HO_191000.out BK190.out (by decide))); have n6_ := Aside0.mk (blk_grown (g := gb192) (o := .cells #[.int .i64 ((rd_T60 l0_0 x9_1).f0), .int .i64 ((rd_T60 l0_0 x9_1).f1), .int .i64 ((rd_T60 l0_0 x9_1).f2), .int .i64 ((rd_T60 l0_0 x9_1).f3)] 60 (0, 0)) (zk0 BK192) hg (Kd.R_away HO_191000.out (fun _ hk => hk.2))); have n7_ := Aside0.mk (hb); have n8_ := Aside0.mk (ho); clear HO_190000; clear BK180; clear BK181; clear BK182; clear BK189; clear BK190; clear BK192; clear HB; clear HO_191000; have HO_190000 := n0_; have BK180 := n1_; have BK181 := n2_; have BK182 := n3_; have BK189 := n4_; have BK190 := n5_; have BK192 := n6_; have HB := n7_; have HO199 := n8_; clear n0_ n1_ n2_ n3_ n4_ n5_ n6_ n7_ n8_; clear ho hb hg hat; obtain ⟨Ao103, co103, eo103⟩ := Kd.R_slice HO199.out; subst eo103; have hcz104_0 := zc0 BK190 0 rfl; have hfz104_0 := blk_frozen BK190.out 0; have hcz105_0 := zc0 BK192 0 rfl; have hcz105_1 := zc0 BK192 1 rfl; have hcz105_2 := zc0 BK192 2 rfl; have hcz105_3 := zc0 BK192 3 rfl; have hfz105_0 := blk_frozen BK192.out 0; have hfz105_1 := blk_frozen BK192.out 1; have hfz105_2 := blk_frozen BK192.out 2; have hfz105_3 := blk_frozen BK192.out 3))
          go_roundg kj24
          case measure => have := HK1.out; have := HJ24.out; omega
          case rel => exact ⟨(wrap64 (x8_1 + ((rd_T60 l0_0 x9_1).f2))), (wrap64 (x9_1 + 1)), (x190000_1), (y197), (u190000), (.slice Ao103 y197.length co103), (by first | rfl | (simp; done) | (simp [*]; done)), (by first | rfl | (simp; done) | (simp [*]; done)), H', ⟨by have := HK1.out; have := HJ24.out; omega⟩, ⟨by (with_reducible repeat (first | apply Kd.R_alloc | apply Kd.R_drewN | apply Kd.R_drew)); exact Kd.R_mono (Kd.R_far (p := ⟨gb190, 0, none⟩) (Kd.R_types HO_190000.out BK190.out (by decide)) (fun _ hk => hk.2) (.slice Ao103 y197.length co103)) (fun _ hk => hk.1.2)⟩, ⟨by (with_reducible repeat (first | apply Kd.R_alloc | apply Kd.R_drewN | apply Kd.R_drew)); exact Kd.R_mono (Kd.R_far (p := ⟨gb190, 0, none⟩) (Kd.R_types HO199.out BK190.out (by decide)) (fun _ hk => hk.2) (.slice Ao103 y197.length co103)) (fun _ hk => hk.1.1)⟩, ⟨by (with_reducible repeat (first | refine blk_drewN ?_ _ | refine blk_drew ?_ | refine blk_alloc ?_ _)); refine blk_far ?_ NB180_190.out _; (with_reducible repeat (first | refine blk_drewN ?_ _ | refine blk_drew ?_ | refine blk_alloc ?_ _)); exact BK180.out⟩, ⟨by (with_reducible repeat (first | refine blk_drewN ?_ _ | refine blk_drew ?_ | refine blk_alloc ?_ _)); refine blk_far ?_ NB181_190.out _; (with_reducible repeat (first | refine blk_drewN ?_ _ | refine blk_drew ?_ | refine blk_alloc ?_ _)); exact BK181.out⟩, ⟨by (with_reducible repeat (first | refine blk_drewN ?_ _ | refine blk_drew ?_ | refine blk_alloc ?_ _)); refine blk_far ?_ NB182_190.out _; (with_reducible repeat (first | refine blk_drewN ?_ _ | refine blk_drew ?_ | refine blk_alloc ?_ _)); exact BK182.out⟩, ⟨by (with_reducible repeat (first | refine blk_drewN ?_ _ | refine blk_drew ?_ | refine blk_alloc ?_ _)); refine blk_far ?_ NB189_190.out _; (with_reducible repeat (first | refine blk_drewN ?_ _ | refine blk_drew ?_ | refine blk_alloc ?_ _)); exact BK189.out⟩, ⟨by (with_reducible repeat (first | refine blk_drewN ?_ _ | refine blk_drew ?_ | refine blk_alloc ?_ _)); refine blk_put (cs := #[u191000]) ?_ 0 _ rfl; (with_reducible repeat (first | refine blk_drewN ?_ _ | refine blk_drew ?_ | refine blk_alloc ?_ _)); exact BK190.out⟩, ⟨by repeat (first | exact zh0 HB | refine below_set ?_ GE180.out | refine below_set ?_ GE181.out | refine below_set ?_ GE182.out | refine below_set ?_ GE189.out | refine below_set ?_ GE190.out | refine below_set ?_ GE192.out)⟩⟩
         ·rw [if_neg c90] at H
          exact absurd H (by simp)
        ·rw [if_neg c89] at H
         have c89b0 : decide (a1 ≤ x8_1) = false := decide_eq_false c89
         clear c89
         replace H := Option.bind_eq_some_iff.mp H
         obtain ⟨⟨t200, t201, t202, t203⟩, A1060, H⟩ := H
         replace H : (if x190000_1.length < 4398046511104 then ((spec_l2Slice.f ((rd_T60 l0_0 x9_1).f0) ((rd_T60 l0_0 x9_1).f1) ((rd_T60 l0_0 x9_1).f2) ((rd_T60 l0_0 x9_1).f3) (wrap64 (a1 - x8_1)) ((rd_T60 l0_0 x9_1).f2) ((rd_T60 l0_0 x9_1).f3)).bind fun bt207 => (if x191000_1.length < 4398046511104 then (spec_l7Split.l0 kj24 a1 (wrap64 (x8_1 + ((rd_T60 l0_0 x9_1).f2))) (wrap64 (x9_1 + 1)) l0_0 (x190000_1 ++ [(⟨t200, t201, t202, t203⟩ : S60)]) (x191000_1 ++ [(⟨bt207.1, bt207.2.1, bt207.2.2.1, bt207.2.2.2⟩ : S60)])) else (none))) else (none)) = some (r1, r2) := H
         have A106 := Aside0.mk A1060
         clear A1060
         by_cases c107 : x190000_1.length < 4398046511104
         ·rw [if_pos c107] at H
          have LMc107 := Aside0.mk c107
          clear c107
          obtain ⟨y204, hy204⟩ : ∃ y_ : List (S60), y_ = (x190000_1 ++ [(⟨t200, t201, t202, t203⟩ : S60)]) := ⟨_, rfl⟩
          replace H : ((spec_l2Slice.f ((rd_T60 l0_0 x9_1).f0) ((rd_T60 l0_0 x9_1).f1) ((rd_T60 l0_0 x9_1).f2) ((rd_T60 l0_0 x9_1).f3) (wrap64 (a1 - x8_1)) ((rd_T60 l0_0 x9_1).f2) ((rd_T60 l0_0 x9_1).f3)).bind fun bt207 => (if x191000_1.length < 4398046511104 then (spec_l7Split.l0 kj24 a1 (wrap64 (x8_1 + ((rd_T60 l0_0 x9_1).f2))) (wrap64 (x9_1 + 1)) l0_0 y204 (x191000_1 ++ [(⟨bt207.1, bt207.2.1, bt207.2.2.1, bt207.2.2.2⟩ : S60)])) else (none))) = some (r1, r2) := by first | (rw [hy204]; with_reducible exact H) | (have H2_ := (Option.bind_some _ _).symm.trans H; rw [hy204]; with_reducible exact H2_) | (have H2_ := (Option.bind_some _ _).symm.trans H; with_reducible exact H2_) | with_reducible exact H | (rw [hy204]; exact H) | exact H
          have Ny204 := Aside0.mk hy204
          clear hy204
          replace H := Option.bind_eq_some_iff.mp H
          obtain ⟨⟨t207, t208, t209, t210⟩, A1080, H⟩ := H
          replace H : (if x191000_1.length < 4398046511104 then (spec_l7Split.l0 kj24 a1 (wrap64 (x8_1 + ((rd_T60 l0_0 x9_1).f2))) (wrap64 (x9_1 + 1)) l0_0 y204 (x191000_1 ++ [(⟨t207, t208, t209, t210⟩ : S60)])) else (none)) = some (r1, r2) := H
          have A108 := Aside0.mk A1080
          clear A1080
          by_cases c109 : x191000_1.length < 4398046511104
          ·rw [if_pos c109] at H
           have LMc109 := Aside0.mk c109
           clear c109
           obtain ⟨y211, hy211⟩ : ∃ y_ : List (S60), y_ = (x191000_1 ++ [(⟨t207, t208, t209, t210⟩ : S60)]) := ⟨_, rfl⟩
           replace H : (spec_l7Split.l0 kj24 a1 (wrap64 (x8_1 + ((rd_T60 l0_0 x9_1).f2))) (wrap64 (x9_1 + 1)) l0_0 y204 y211) = some (r1, r2) := by first | (rw [hy211]; with_reducible exact H) | (have H2_ := (Option.bind_some _ _).symm.trans H; rw [hy211]; with_reducible exact H2_) | (have H2_ := (Option.bind_some _ _).symm.trans H; with_reducible exact H2_) | with_reducible exact H | (rw [hy211]; exact H) | exact H
           have Ny211 := Aside0.mk hy211
           clear hy211
           have H' := Aside0.mk H
           clear H
           try go_wp2
           replace HO_190000 := Aside0.mk (Kd.R_drew HO_190000.out)
           replace HO_191000 := Aside0.mk (Kd.R_drew HO_191000.out)
           replace BK180 := Aside0.mk (blk_drew BK180.out)
           replace BK181 := Aside0.mk (blk_drew BK181.out)
           replace BK182 := Aside0.mk (blk_drew BK182.out)
           replace BK189 := Aside0.mk (blk_drew BK189.out)
           replace BK190 := Aside0.mk (blk_drew BK190.out)
           replace BK192 := Aside0.mk (blk_drew BK192.out)
           replace HB := Aside0.mk (below_drew1 HB.out)
           refine start_ (n := 14) (S := fun w' => w'.cell? ⟨gb189, 0, none⟩ = some (u190000) ∧ w'.cell? ⟨gb192, 0, none⟩ = some (.int .i64 ((rd_T60 l0_0 x9_1).f0)) ∧ w'.cell? ⟨gb192, 1, none⟩ = some (.int .i64 ((rd_T60 l0_0 x9_1).f1)) ∧ w'.cell? ⟨gb192, 2, none⟩ = some (.int .i64 ((rd_T60 l0_0 x9_1).f2)) ∧ w'.cell? ⟨gb192, 3, none⟩ = some (.int .i64 ((rd_T60 l0_0 x9_1).f3))) (ds := [13]) #[zF, zF, zF, zF, zF, zF, zF, zF, zF, zF, zF, zF, zF, zF] (by kernel_rfl) rfl rfl ⟨zc0 BK189 0 rfl, zc0 BK192 0 rfl, zc0 BK192 1 rfl, zc0 BK192 2 rfl, zc0 BK192 3 rfl⟩ (fun hHeld => ?_); refine with_tabW spec_l7Split.tab7 spec_l7Split.bits7 (fun HT_ HW_ => ?_)
           generalize wc.drew = w110 at HO_190000 HO_191000 BK180 BK181 BK182 BK189 BK190 BK192 HB hHeld ⊢
           refine pure_ (i := 0) (N := some 27) (v := ?_) (a' := ?_) #[zT, zF, zF, zF, zF, zF, zF, zF, zF, zF, zF, zF, zF, zF] rfl rfl (any_of HT_.out (by kernel_rfl)) (fun _ _ _ h => h) (Or.inl ⟨by rfl, ?_⟩) ?_ ?_
           rotate_left
           ·intro w'
            go_simp
            with_reducible rfl
           rotate_left
           ·simp only [Act.put, zp1, zp2, zp3, i64_w, i32_w]
            rfl
           refine pure_ (i := 3) (N := some 30) (v := ?_) (a' := ?_) #[zT, zF, zF, zT, zF, zF, zF, zF, zF, zF, zF, zF, zF, zF] rfl rfl (any_of HT_.out (by kernel_rfl)) (fun _ _ _ h => h) (Or.inl ⟨by rfl, ?_⟩) ?_ ?_
           rotate_left
           ·intro w'
            go_simp
            with_reducible rfl
           rotate_left
           ·simp only [Act.put, zp1, zp2, zp3, i64_w, i32_w]
            rfl
           refine pure_ (i := 4) (N := some 31) (v := ?_) (a' := ?_) #[zT, zF, zF, zT, zT, zF, zF, zF, zF, zF, zF, zF, zF, zF] rfl rfl (any_of HT_.out (by kernel_rfl)) (fun _ _ _ h => h) (Or.inl ⟨by rfl, ?_⟩) ?_ ?_
           rotate_left
           ·intro w'
            go_simp
            with_reducible rfl
           rotate_left
           ·simp only [Act.put, zp1, zp2, zp3, i64_w, i32_w]
            rfl
           refine pure_ (i := 5) (N := some 32) (v := ?_) (a' := ?_) #[zT, zF, zF, zT, zT, zT, zF, zF, zF, zF, zF, zF, zF, zF] rfl rfl (any_of HT_.out (by kernel_rfl)) (fun _ _ _ h => h) (Or.inl ⟨by rfl, ?_⟩) ?_ ?_
           rotate_left
           ·intro w'
            go_simp
            with_reducible rfl
           rotate_left
           ·simp only [Act.put, zp1, zp2, zp3, i64_w, i32_w]
            rfl
           refine pure_ (i := 6) (N := some 33) (v := ?_) (a' := ?_) #[zT, zF, zF, zT, zT, zT, zT, zF, zF, zF, zF, zF, zF, zF] rfl rfl (any_of HT_.out (by kernel_rfl)) (fun _ _ _ h => h) (Or.inl ⟨by rfl, ?_⟩) ?_ ?_
           rotate_left
           ·intro w'
            go_simp
            with_reducible rfl
           rotate_left
           ·simp only [Act.put, zp1, zp2, zp3, i64_w, i32_w]
            rfl
           refine pure_ (i := 7) (N := some 34) (v := ?_) (a' := ?_) #[zT, zF, zF, zT, zT, zT, zT, zT, zF, zF, zF, zF, zF, zF] rfl rfl (any_of HT_.out (by kernel_rfl)) (fun _ _ _ h => h) (Or.inl ⟨by rfl, ?_⟩) ?_ ?_
           rotate_left
           ·intro w'
            go_simp
            with_reducible rfl
           rotate_left
           ·simp only [Act.put, zp1, zp2, zp3, i64_w, i32_w]
            rfl
           refine pure_ (i := 8) (N := some 35) (v := ?_) (a' := ?_) #[zT, zF, zF, zT, zT, zT, zT, zT, zT, zF, zF, zF, zF, zF] rfl rfl (any_of HT_.out (by kernel_rfl)) (fun _ _ _ h => h) (Or.inl ⟨by rfl, ?_⟩) ?_ ?_
           rotate_left
           ·intro w'
            go_simp
            with_reducible rfl
           rotate_left
           ·simp only [Act.put, zp1, zp2, zp3, i64_w, i32_w]
            rfl
           refine take_ (i := 1) (N := some 28) (v := ?_) (a' := ?_) #[zT, zT, zF, zT, zT, zT, zT, zT, zT, zF, zF, zF, zF, zF] rfl rfl (take_ofW HT_.out HW_.out (by kernel_rfl)) (fun _ _ _ h => h) (Or.inl ⟨by rfl, ?_⟩) hHeld ?_ ?_
           rotate_left
           ·rintro w' ⟨s0, s1, s2, s3, s4⟩
            go_simp
            with_reducible rfl
           rotate_left
           ·simp only [Act.put, zp1, zp2, zp3, i64_w, i32_w]
            rfl
           refine take_ (i := 2) (N := some 29) (v := ?_) (a' := ?_) #[zT, zT, zT, zT, zT, zT, zT, zT, zT, zF, zF, zF, zF, zF] rfl rfl (take_ofW HT_.out HW_.out (by kernel_rfl)) (fun _ _ _ h => h) (Or.inl ⟨by rfl, ?_⟩) hHeld ?_ ?_
           rotate_left
           ·rintro w' ⟨s0, s1, s2, s3, s4⟩
            go_simp
            with_reducible rfl
           rotate_left
           ·simp only [Act.put, zp1, zp2, zp3, i64_w, i32_w]
            rfl
           refine one_ (i := 9) (N := some 36) #[zT, zT, zT, zT, zT, zT, zT, zT, zT, zT, zF, zF, zF, zF] rfl rfl (one_of HT_.out (by kernel_rfl)) (by decide) (fun K hK => ?_)
           refine goes_ Try.func142 (by kernel_rfl) rfl #[.agg #[.int .i64 ((rd_T60 l0_0 x9_1).f0), .int .i64 ((rd_T60 l0_0 x9_1).f1), .int .i64 ((rd_T60 l0_0 x9_1).f2), .int .i64 ((rd_T60 l0_0 x9_1).f3)], .int .i64 0, .int .i64 (wrap64 (a1 - x8_1)), .int .i64 (wrap64 (a1 - x8_1))] (by rfl) rfl rfl (by (try simp only [zq1, zq2, zq3]); first | done | rfl | (simp only [List.length_drop, List.length_take]; rfl)) ?_
           with_reducible refine (spec_l2Slice.calls ((rd_T60 l0_0 x9_1).f0) ((rd_T60 l0_0 x9_1).f1) ((rd_T60 l0_0 x9_1).f2) ((rd_T60 l0_0 x9_1).f3) 0 (wrap64 (a1 - x8_1)) (wrap64 (a1 - x8_1)) t200 t201 t202 t203 _ A106.out).mono ?_
           rintro e w111 ⟨rfl, hb⟩
           refine ⟨_, rfl, ?_⟩
           replace HO_190000 := zrb HO_190000 hb
           replace HO_191000 := zrb HO_191000 hb
           replace BK180 := zb0 BK180 hb
           replace BK181 := zb0 BK181 hb
           replace BK182 := zb0 BK182 hb
           replace BK189 := zb0 BK189 hb
           replace BK190 := zb0 BK190 hb
           replace BK192 := zb0 BK192 hb
           replace HB := zhs HB hb
           (try clear hb)
           (try clear hb2)
           (try clear hk)
           (try clear hi)
           refine hK.out _ _ ⟨zc0 BK189 0 rfl, zc0 BK192 0 rfl, zc0 BK192 1 rfl, zc0 BK192 2 rfl, zc0 BK192 3 rfl⟩ (fun hHeld => ?_)
           clear hK K
           refine norm_ (a' := ?_) ?_ ?_
           rotate_left
           ·show Act.put _ (some 36) _ = _
            simp only [Act.put, zp1, zp2, zp3, i64_w, i32_w]
            rfl
           refine one_ (i := 10) (N := some 37) #[zT, zT, zT, zT, zT, zT, zT, zT, zT, zT, zT, zF, zF, zF] rfl rfl (one_of HT_.out (by kernel_rfl)) (by decide) (fun K hK => ?_)
           refine value_ (w1 := ?_) (v := ?_) (by rfl) rfl ?_ ?_
           rotate_left 2
           ·go_simp
            constructor
            ·rfl
            ·rfl
           refine hK.out _ _ ⟨(blk_cell (blk_alloc BK189.out _) 0).trans rfl, (blk_cell (blk_alloc BK192.out _) 0).trans rfl, (blk_cell (blk_alloc BK192.out _) 1).trans rfl, (blk_cell (blk_alloc BK192.out _) 2).trans rfl, (blk_cell (blk_alloc BK192.out _) 3).trans rfl⟩ (fun hHeld => ?_)
           clear hK K
           refine norm_ (a' := ?_) ?_ ?_
           rotate_left
           ·show Act.put _ (some 37) _ = _
            simp only [Act.put, zp1, zp2, zp3, i64_w, i32_w]
            rfl
           refine one_ (i := 11) (N := some 38) #[zT, zT, zT, zT, zT, zT, zT, zT, zT, zT, zT, zT, zF, zF] rfl rfl (one_of HT_.out (by kernel_rfl)) (by decide) (fun K hK => ?_)
           refine Kd.R_append_step k60 (w0 := w) w.heap.size (by rfl) (.tmp 28) (.tmp 37) 30 60 (.agg #[(.int .i64 0), (.int .i64 0), (.int .i64 0), (.int .i64 0)]) 32 rfl Try.underlying30 info60 rfl (by decide) (by omega) u190000 x190000_1 (⟨t200, t201, t202, t203⟩ : S60) [.int .i64 t200, .int .i64 t201, .int .i64 t202, .int .i64 t203] (fun k_ => some k_ ≠ (u191000 : Value).ownBlock ∧ k_ ≠ gb192) (fun _ => False) rfl rfl ?aP (fun _ hk => hk.elim) ?aF ?aO ?aB ?aS ?aL ?_
           (case aP => exact k60_mkM _ _ _ (⟨t200, t201, t202, t203⟩ : S60))
           (case aB => exact (zh0 HB))
           (case aF => exact (fun k_ hk => ⟨Kd.fresh' (Kd.R_lt (zr0 HO_191000)) k_ hk, Kd.freshB (g := gb192) (o := .cells #[.int .i64 ((rd_T60 l0_0 x9_1).f0), .int .i64 ((rd_T60 l0_0 x9_1).f1), .int .i64 ((rd_T60 l0_0 x9_1).f2), .int .i64 ((rd_T60 l0_0 x9_1).f3)] 60 (0, 0)) (zk0 BK192) k_ hk⟩))
           (case aO => exact (zr0 HO_190000))
           (case aS => exact (below_size (zh0 HB)))
           (case aL => have := LMc107.out; omega)
           intro v205 w112 ho hb hg hat
           rw [← Ny204.out] at ho
           have n0_ := Aside0.mk (Kd.R_after (ok := (fun k_ => k_ ≠ gb192)) (by (with_reducible repeat (first | apply Kd.R_alloc | apply Kd.R_drewN | apply Kd.R_drew)); exact Kd.R_mono HO_191000.out (fun _ hk => ⟨hk.2, hk.1⟩)) hg hat)
           have n1_ := Aside0.mk (blk_grown (g := gb180) (o := .cells #[.slice (some ad191) l0_0.length c0_0] 32 (0, 0)) (zk0 BK180) hg (Kd.R_ne HO_190000.out BK180.out (by decide)))
           have n2_ := Aside0.mk (blk_grown (g := gb181) (o := .cells #[.slice none 0 0] 32 (0, 0)) (zk0 BK181) hg (Kd.R_ne HO_190000.out BK181.out (by decide)))
           have n3_ := Aside0.mk (blk_grown (g := gb182) (o := .cells #[.slice none 0 0] 32 (0, 0)) (zk0 BK182) hg (Kd.R_ne HO_190000.out BK182.out (by decide)))
           have n4_ := Aside0.mk (blk_grown (g := gb189) (o := .cells #[u190000] 32 (0, 0)) (zk0 BK189) hg (Kd.R_ne HO_190000.out BK189.out (by decide)))
           have n5_ := Aside0.mk (blk_grown (g := gb190) (o := .cells #[u191000] 32 (0, 0)) (zk0 BK190) hg (Kd.R_ne HO_190000.out BK190.out (by decide)))
           have n6_ := Aside0.mk (blk_grown (g := gb192) (o := .cells #[.int .i64 ((rd_T60 l0_0 x9_1).f0), .int .i64 ((rd_T60 l0_0 x9_1).f1), .int .i64 ((rd_T60 l0_0 x9_1).f2), .int .i64 ((rd_T60 l0_0 x9_1).f3)] 60 (0, 0)) (zk0 BK192) hg (Kd.R_away HO_190000.out (fun _ hk => hk.2)))
           have n7_ := Aside0.mk (hb)
           have n8_ := Aside0.mk (ho)
           clear HO_191000
           clear BK180
           clear BK181
           clear BK182
           clear BK189
           clear BK190
           clear BK192
           clear HB
           clear HO_190000
           have HO_191000 := n0_
           have BK180 := n1_
           have BK181 := n2_
           have BK182 := n3_
           have BK189 := n4_
           have BK190 := n5_
           have BK192 := n6_
           have HB := n7_
           have HO206 := n8_
           clear n0_ n1_ n2_ n3_ n4_ n5_ n6_ n7_ n8_
           clear ho hb hg hat
           obtain ⟨Ao113, co113, eo113⟩ := Kd.R_slice HO206.out
           (first | subst eo113 | (injection eo113 with f1_ f2_ f3_; have f4_ := f1_.symm; have f5_ := f3_.symm; clear f1_ f2_ f3_; subst f4_; subst f5_))
           refine hK.out _ _ ⟨zc0 BK189 0 rfl, zc0 BK192 0 rfl, zc0 BK192 1 rfl, zc0 BK192 2 rfl, zc0 BK192 3 rfl⟩ (fun hHeld => ?_)
           clear hK K
           refine norm_ (a' := ?_) ?_ ?_
           rotate_left
           ·show Act.put _ (some 38) _ = _
            simp only [Act.put, zp1, zp2, zp3, i64_w, i32_w]
            rfl
           refine pure_ (i := 12) (N := some 39) (v := ?_) (a' := ?_) #[zT, zT, zT, zT, zT, zT, zT, zT, zT, zT, zT, zT, zT, zF] rfl rfl (any_of HT_.out (by kernel_rfl)) (fun _ _ _ h => h) (Or.inl ⟨by rfl, ?_⟩) ?_ ?_
           rotate_left
           ·intro w'
            go_simp
            with_reducible rfl
           rotate_left
           ·simp only [Act.put, zp1, zp2, zp3, i64_w, i32_w]
            rfl
           refine last_ (i := 13) (N := none) #[zT, zT, zT, zT, zT, zT, zT, zT, zT, zT, zT, zT, zT, zT] rfl rfl (one_of HT_.out (by kernel_rfl)) (by decide) (fun K hK => ?_)
           have hs114 : w112.cell? ⟨gb189, 0, none⟩ = some (u190000) := zc0 BK189 0 rfl
           have hfs114 := blk_frozen BK189.out 0
           have hns114_0 := NB180_189.out
           have hns114_1 := NB181_189.out
           have hns114_2 := NB182_189.out
           have hns114_4 := NB190_189.out
           have hns114_5 := NB192_189.out
           have hms114_0 := NB189_180.out
           have hms114_1 := NB189_181.out
           have hms114_2 := NB189_182.out
           have hms114_4 := NB189_190.out
           have hms114_5 := NB189_192.out
           refine skip_ (w1 := ?_) (by rfl) rfl ?_ ?_
           rotate_left
           ·go_simp
            rfl
           refine hK.out _ _ ?_
           clear hK K
           refine done_ (done_of HT_.out (by kernel_rfl)) ?_
           try go_wp2
           have n0_ : Aside0 (Kd.R k60 60 (w112.setCell ⟨gb189, 0, none⟩ (.slice Ao113 y204.length co113)) w.heap.size (fun k_ => some k_ ≠ (.slice Ao113 y204.length co113 : Value).ownBlock ∧ k_ ≠ gb192) u191000 x191000_1) := ⟨by (with_reducible repeat (first | apply Kd.R_alloc | apply Kd.R_drewN | apply Kd.R_drew)); exact Kd.R_mono (Kd.R_far (p := ⟨gb189, 0, none⟩) (Kd.R_types HO_191000.out BK189.out (by decide)) (fun _ hk => hk.2) (.slice Ao113 y204.length co113)) (fun _ hk => ⟨hk.1.2, hk.1.1⟩)⟩
           have n1_ : Aside0 (Kd.R k60 60 (w112.setCell ⟨gb189, 0, none⟩ (.slice Ao113 y204.length co113)) w.heap.size (fun k_ => some k_ ≠ (u191000 : Value).ownBlock ∧ k_ ≠ gb192) (.slice Ao113 y204.length co113) y204) := ⟨by (with_reducible repeat (first | apply Kd.R_alloc | apply Kd.R_drewN | apply Kd.R_drew)); exact Kd.R_mono (Kd.R_far (p := ⟨gb189, 0, none⟩) (Kd.R_types HO206.out BK189.out (by decide)) (fun _ hk => hk.2) (.slice Ao113 y204.length co113)) (fun _ hk => ⟨hk.1.1, hk.1.2⟩)⟩
           have n2_ : Aside0 ((w112.setCell ⟨gb189, 0, none⟩ (.slice Ao113 y204.length co113)).heap[gb180]? = some (.cells #[.slice (some ad191) l0_0.length c0_0] 32 (0, 0))) := ⟨by (with_reducible repeat (first | refine blk_drewN ?_ _ | refine blk_drew ?_ | refine blk_alloc ?_ _)); refine blk_far ?_ NB180_189.out _; (with_reducible repeat (first | refine blk_drewN ?_ _ | refine blk_drew ?_ | refine blk_alloc ?_ _)); exact BK180.out⟩
           have n3_ : Aside0 ((w112.setCell ⟨gb189, 0, none⟩ (.slice Ao113 y204.length co113)).heap[gb181]? = some (.cells #[.slice none 0 0] 32 (0, 0))) := ⟨by (with_reducible repeat (first | refine blk_drewN ?_ _ | refine blk_drew ?_ | refine blk_alloc ?_ _)); refine blk_far ?_ NB181_189.out _; (with_reducible repeat (first | refine blk_drewN ?_ _ | refine blk_drew ?_ | refine blk_alloc ?_ _)); exact BK181.out⟩
           have n4_ : Aside0 ((w112.setCell ⟨gb189, 0, none⟩ (.slice Ao113 y204.length co113)).heap[gb182]? = some (.cells #[.slice none 0 0] 32 (0, 0))) := ⟨by (with_reducible repeat (first | refine blk_drewN ?_ _ | refine blk_drew ?_ | refine blk_alloc ?_ _)); refine blk_far ?_ NB182_189.out _; (with_reducible repeat (first | refine blk_drewN ?_ _ | refine blk_drew ?_ | refine blk_alloc ?_ _)); exact BK182.out⟩
           have n5_ : Aside0 ((w112.setCell ⟨gb189, 0, none⟩ (.slice Ao113 y204.length co113)).heap[gb189]? = some (.cells #[.slice Ao113 y204.length co113] 32 (0, 0))) := ⟨by (with_reducible repeat (first | refine blk_drewN ?_ _ | refine blk_drew ?_ | refine blk_alloc ?_ _)); refine blk_put (cs := #[u190000]) ?_ 0 _ rfl; (with_reducible repeat (first | refine blk_drewN ?_ _ | refine blk_drew ?_ | refine blk_alloc ?_ _)); exact BK189.out⟩
           have n6_ : Aside0 ((w112.setCell ⟨gb189, 0, none⟩ (.slice Ao113 y204.length co113)).heap[gb190]? = some (.cells #[u191000] 32 (0, 0))) := ⟨by (with_reducible repeat (first | refine blk_drewN ?_ _ | refine blk_drew ?_ | refine blk_alloc ?_ _)); refine blk_far ?_ NB190_189.out _; (with_reducible repeat (first | refine blk_drewN ?_ _ | refine blk_drew ?_ | refine blk_alloc ?_ _)); exact BK190.out⟩
           have n7_ : Aside0 ((w112.setCell ⟨gb189, 0, none⟩ (.slice Ao113 y204.length co113)).heap[gb192]? = some (.cells #[.int .i64 ((rd_T60 l0_0 x9_1).f0), .int .i64 ((rd_T60 l0_0 x9_1).f1), .int .i64 ((rd_T60 l0_0 x9_1).f2), .int .i64 ((rd_T60 l0_0 x9_1).f3)] 60 (0, 0))) := ⟨by (with_reducible repeat (first | refine blk_drewN ?_ _ | refine blk_drew ?_ | refine blk_alloc ?_ _)); refine blk_far ?_ NB192_189.out _; (with_reducible repeat (first | refine blk_drewN ?_ _ | refine blk_drew ?_ | refine blk_alloc ?_ _)); exact BK192.out⟩
           have n8_ : Aside0 (Below w.heap.size w (w112.setCell ⟨gb189, 0, none⟩ (.slice Ao113 y204.length co113))) := ⟨by repeat (first | exact zh0 HB | refine below_set ?_ GE180.out | refine below_set ?_ GE181.out | refine below_set ?_ GE182.out | refine below_set ?_ GE189.out | refine below_set ?_ GE190.out | refine below_set ?_ GE192.out)⟩
           (try clear HO_191000)
           (try clear HO206)
           (try clear BK180)
           (try clear BK181)
           (try clear BK182)
           (try clear BK189)
           (try clear BK190)
           (try clear BK192)
           (try clear HB)
           generalize (w112.setCell ⟨gb189, 0, none⟩ (.slice Ao113 y204.length co113)) = w115 at n0_ n1_ n2_ n3_ n4_ n5_ n6_ n7_ n8_ ⊢
           have HO_191000 := n0_
           have HO206 := n1_
           have BK180 := n2_
           have BK181 := n3_
           have BK182 := n4_
           have BK189 := n5_
           have BK190 := n6_
           have BK192 := n7_
           have HB := n8_
           clear n0_ n1_ n2_ n3_ n4_ n5_ n6_ n7_ n8_
           replace HO_191000 := Aside0.mk (Kd.R_drew HO_191000.out)
           replace HO206 := Aside0.mk (Kd.R_drew HO206.out)
           replace BK180 := Aside0.mk (blk_drew BK180.out)
           replace BK181 := Aside0.mk (blk_drew BK181.out)
           replace BK182 := Aside0.mk (blk_drew BK182.out)
           replace BK189 := Aside0.mk (blk_drew BK189.out)
           replace BK190 := Aside0.mk (blk_drew BK190.out)
           replace BK192 := Aside0.mk (blk_drew BK192.out)
           replace HB := Aside0.mk (below_drew1 HB.out)
           refine start_ (n := 15) (S := fun w' => w'.cell? ⟨gb190, 0, none⟩ = some (u191000) ∧ w'.cell? ⟨gb192, 0, none⟩ = some (.int .i64 ((rd_T60 l0_0 x9_1).f0)) ∧ w'.cell? ⟨gb192, 1, none⟩ = some (.int .i64 ((rd_T60 l0_0 x9_1).f1)) ∧ w'.cell? ⟨gb192, 2, none⟩ = some (.int .i64 ((rd_T60 l0_0 x9_1).f2)) ∧ w'.cell? ⟨gb192, 3, none⟩ = some (.int .i64 ((rd_T60 l0_0 x9_1).f3))) (ds := [14]) #[zF, zF, zF, zF, zF, zF, zF, zF, zF, zF, zF, zF, zF, zF, zF] (by kernel_rfl) rfl rfl ⟨zc0 BK190 0 rfl, zc0 BK192 0 rfl, zc0 BK192 1 rfl, zc0 BK192 2 rfl, zc0 BK192 3 rfl⟩ (fun hHeld => ?_); refine with_tabW spec_l7Split.tab8 spec_l7Split.bits8 (fun HT_ HW_ => ?_)
           generalize w115.drew = w116 at HO_191000 HO206 BK180 BK181 BK182 BK189 BK190 BK192 HB hHeld ⊢
           refine pure_ (i := 0) (N := some 40) (v := ?_) (a' := ?_) #[zT, zF, zF, zF, zF, zF, zF, zF, zF, zF, zF, zF, zF, zF, zF] rfl rfl (any_of HT_.out (by kernel_rfl)) (fun _ _ _ h => h) (Or.inl ⟨by rfl, ?_⟩) ?_ ?_
           rotate_left
           ·intro w'
            go_simp
            with_reducible rfl
           rotate_left
           ·simp only [Act.put, zp1, zp2, zp3, i64_w, i32_w]
            rfl
           refine pure_ (i := 3) (N := some 43) (v := ?_) (a' := ?_) #[zT, zF, zF, zT, zF, zF, zF, zF, zF, zF, zF, zF, zF, zF, zF] rfl rfl (any_of HT_.out (by kernel_rfl)) (fun _ _ _ h => h) (Or.inl ⟨by rfl, ?_⟩) ?_ ?_
           rotate_left
           ·intro w'
            go_simp
            with_reducible rfl
           rotate_left
           ·simp only [Act.put, zp1, zp2, zp3, i64_w, i32_w]
            rfl
           refine pure_ (i := 4) (N := some 44) (v := ?_) (a' := ?_) #[zT, zF, zF, zT, zT, zF, zF, zF, zF, zF, zF, zF, zF, zF, zF] rfl rfl (any_of HT_.out (by kernel_rfl)) (fun _ _ _ h => h) (Or.inl ⟨by rfl, ?_⟩) ?_ ?_
           rotate_left
           ·intro w'
            go_simp
            with_reducible rfl
           rotate_left
           ·simp only [Act.put, zp1, zp2, zp3, i64_w, i32_w]
            rfl
           refine pure_ (i := 5) (N := some 45) (v := ?_) (a' := ?_) #[zT, zF, zF, zT, zT, zT, zF, zF, zF, zF, zF, zF, zF, zF, zF] rfl rfl (any_of HT_.out (by kernel_rfl)) (fun _ _ _ h => h) (Or.inl ⟨by rfl, ?_⟩) ?_ ?_
           rotate_left
           ·intro w'
            go_simp
            with_reducible rfl
           rotate_left
           ·simp only [Act.put, zp1, zp2, zp3, i64_w, i32_w]
            rfl
           refine pure_ (i := 6) (N := some 46) (v := ?_) (a' := ?_) #[zT, zF, zF, zT, zT, zT, zT, zF, zF, zF, zF, zF, zF, zF, zF] rfl rfl (any_of HT_.out (by kernel_rfl)) (fun _ _ _ h => h) (Or.inl ⟨by rfl, ?_⟩) ?_ ?_
           rotate_left
           ·intro w'
            go_simp
            with_reducible rfl
           rotate_left
           ·simp only [Act.put, zp1, zp2, zp3, i64_w, i32_w]
            rfl
           refine pure_ (i := 8) (N := some 48) (v := ?_) (a' := ?_) #[zT, zF, zF, zT, zT, zT, zT, zF, zT, zF, zF, zF, zF, zF, zF] rfl rfl (any_of HT_.out (by kernel_rfl)) (fun _ _ _ h => h) (Or.inl ⟨by rfl, ?_⟩) ?_ ?_
           rotate_left
           ·intro w'
            go_simp
            with_reducible rfl
           rotate_left
           ·simp only [Act.put, zp1, zp2, zp3, i64_w, i32_w]
            rfl
           refine take_ (i := 1) (N := some 41) (v := ?_) (a' := ?_) #[zT, zT, zF, zT, zT, zT, zT, zF, zT, zF, zF, zF, zF, zF, zF] rfl rfl (take_ofW HT_.out HW_.out (by kernel_rfl)) (fun _ _ _ h => h) (Or.inl ⟨by rfl, ?_⟩) hHeld ?_ ?_
           rotate_left
           ·rintro w' ⟨s0, s1, s2, s3, s4⟩
            go_simp
            with_reducible rfl
           rotate_left
           ·simp only [Act.put, zp1, zp2, zp3, i64_w, i32_w]
            rfl
           refine take_ (i := 2) (N := some 42) (v := ?_) (a' := ?_) #[zT, zT, zT, zT, zT, zT, zT, zF, zT, zF, zF, zF, zF, zF, zF] rfl rfl (take_ofW HT_.out HW_.out (by kernel_rfl)) (fun _ _ _ h => h) (Or.inl ⟨by rfl, ?_⟩) hHeld ?_ ?_
           rotate_left
           ·rintro w' ⟨s0, s1, s2, s3, s4⟩
            go_simp
            with_reducible rfl
           rotate_left
           ·simp only [Act.put, zp1, zp2, zp3, i64_w, i32_w]
            rfl
           refine take_ (i := 7) (N := some 47) (v := ?_) (a' := ?_) #[zT, zT, zT, zT, zT, zT, zT, zT, zT, zF, zF, zF, zF, zF, zF] rfl rfl (take_ofW HT_.out HW_.out (by kernel_rfl)) (fun _ _ _ h => h) (Or.inl ⟨by rfl, ?_⟩) hHeld ?_ ?_
           rotate_left
           ·rintro w' ⟨s0, s1, s2, s3, s4⟩
            go_simp
            with_reducible rfl
           rotate_left
           ·simp only [Act.put, zp1, zp2, zp3, i64_w, i32_w]
            rfl
           refine take_ (i := 9) (N := some 49) (v := ?_) (a' := ?_) #[zT, zT, zT, zT, zT, zT, zT, zT, zT, zT, zF, zF, zF, zF, zF] rfl rfl (take_ofW HT_.out HW_.out (by kernel_rfl)) (fun _ _ _ h => h) (Or.inl ⟨by rfl, ?_⟩) hHeld ?_ ?_
           rotate_left
           ·rintro w' ⟨s0, s1, s2, s3, s4⟩
            go_simp
            with_reducible rfl
           rotate_left
           ·simp only [Act.put, zp1, zp2, zp3, i64_w, i32_w]
            rfl
           refine one_ (i := 10) (N := some 50) #[zT, zT, zT, zT, zT, zT, zT, zT, zT, zT, zT, zF, zF, zF, zF] rfl rfl (one_of HT_.out (by kernel_rfl)) (by decide) (fun K hK => ?_)
           refine goes_ Try.func142 (by kernel_rfl) rfl #[.agg #[.int .i64 ((rd_T60 l0_0 x9_1).f0), .int .i64 ((rd_T60 l0_0 x9_1).f1), .int .i64 ((rd_T60 l0_0 x9_1).f2), .int .i64 ((rd_T60 l0_0 x9_1).f3)], .int .i64 (wrap64 (a1 - x8_1)), .int .i64 ((rd_T60 l0_0 x9_1).f2), .int .i64 ((rd_T60 l0_0 x9_1).f3)] (by rfl) rfl rfl (by (try simp only [zq1, zq2, zq3]); first | done | rfl | (simp only [List.length_drop, List.length_take]; rfl)) ?_
           with_reducible refine (spec_l2Slice.calls ((rd_T60 l0_0 x9_1).f0) ((rd_T60 l0_0 x9_1).f1) ((rd_T60 l0_0 x9_1).f2) ((rd_T60 l0_0 x9_1).f3) (wrap64 (a1 - x8_1)) ((rd_T60 l0_0 x9_1).f2) ((rd_T60 l0_0 x9_1).f3) t207 t208 t209 t210 _ A108.out).mono ?_
           rintro e w117 ⟨rfl, hb⟩
           refine ⟨_, rfl, ?_⟩
           replace HO_191000 := zrb HO_191000 hb
           replace HO206 := zrb HO206 hb
           replace BK180 := zb0 BK180 hb
           replace BK181 := zb0 BK181 hb
           replace BK182 := zb0 BK182 hb
           replace BK189 := zb0 BK189 hb
           replace BK190 := zb0 BK190 hb
           replace BK192 := zb0 BK192 hb
           replace HB := zhs HB hb
           (try clear hb)
           (try clear hb2)
           (try clear hk)
           (try clear hi)
           refine hK.out _ _ ⟨zc0 BK190 0 rfl, zc0 BK192 0 rfl, zc0 BK192 1 rfl, zc0 BK192 2 rfl, zc0 BK192 3 rfl⟩ (fun hHeld => ?_)
           clear hK K
           refine norm_ (a' := ?_) ?_ ?_
           rotate_left
           ·show Act.put _ (some 50) _ = _
            simp only [Act.put, zp1, zp2, zp3, i64_w, i32_w]
            rfl
           refine one_ (i := 11) (N := some 51) #[zT, zT, zT, zT, zT, zT, zT, zT, zT, zT, zT, zT, zF, zF, zF] rfl rfl (one_of HT_.out (by kernel_rfl)) (by decide) (fun K hK => ?_)
           refine value_ (w1 := ?_) (v := ?_) (by rfl) rfl ?_ ?_
           rotate_left 2
           ·go_simp
            constructor
            ·rfl
            ·rfl
           refine hK.out _ _ ⟨(blk_cell (blk_alloc BK190.out _) 0).trans rfl, (blk_cell (blk_alloc BK192.out _) 0).trans rfl, (blk_cell (blk_alloc BK192.out _) 1).trans rfl, (blk_cell (blk_alloc BK192.out _) 2).trans rfl, (blk_cell (blk_alloc BK192.out _) 3).trans rfl⟩ (fun hHeld => ?_)
           clear hK K
           refine norm_ (a' := ?_) ?_ ?_
           rotate_left
           ·show Act.put _ (some 51) _ = _
            simp only [Act.put, zp1, zp2, zp3, i64_w, i32_w]
            rfl
           refine one_ (i := 12) (N := some 52) #[zT, zT, zT, zT, zT, zT, zT, zT, zT, zT, zT, zT, zT, zF, zF] rfl rfl (one_of HT_.out (by kernel_rfl)) (by decide) (fun K hK => ?_)
           refine Kd.R_append_step k60 (w0 := w) w.heap.size (by rfl) (.tmp 41) (.tmp 51) 30 60 (.agg #[(.int .i64 0), (.int .i64 0), (.int .i64 0), (.int .i64 0)]) 32 rfl Try.underlying30 info60 rfl (by decide) (by omega) u191000 x191000_1 (⟨t207, t208, t209, t210⟩ : S60) [.int .i64 t207, .int .i64 t208, .int .i64 t209, .int .i64 t210] (fun k_ => some k_ ≠ (.slice Ao113 y204.length co113 : Value).ownBlock ∧ k_ ≠ gb192) (fun _ => False) rfl rfl ?aP (fun _ hk => hk.elim) ?aF ?aO ?aB ?aS ?aL ?_
           (case aP => exact k60_mkM _ _ _ (⟨t207, t208, t209, t210⟩ : S60))
           (case aB => exact (zh0 HB))
           (case aF => exact (fun k_ hk => ⟨Kd.fresh' (Kd.R_lt (zr0 HO206)) k_ hk, Kd.freshB (g := gb192) (o := .cells #[.int .i64 ((rd_T60 l0_0 x9_1).f0), .int .i64 ((rd_T60 l0_0 x9_1).f1), .int .i64 ((rd_T60 l0_0 x9_1).f2), .int .i64 ((rd_T60 l0_0 x9_1).f3)] 60 (0, 0)) (zk0 BK192) k_ hk⟩))
           (case aO => exact (zr0 HO_191000))
           (case aS => exact (below_size (zh0 HB)))
           (case aL => have := LMc109.out; omega)
           intro v212 w118 ho hb hg hat
           rw [← Ny211.out] at ho
           have n0_ := Aside0.mk (blk_grown (g := gb180) (o := .cells #[.slice (some ad191) l0_0.length c0_0] 32 (0, 0)) (zk0 BK180) hg (Kd.R_ne HO_191000.out BK180.out (by decide)))
           have n1_ := Aside0.mk (blk_grown (g := gb181) (o := .cells #[.slice none 0 0] 32 (0, 0)) (zk0 BK181) hg (Kd.R_ne HO_191000.out BK181.out (by decide)))
           have n2_ := Aside0.mk (blk_grown (g := gb182) (o := .cells #[.slice none 0 0] 32 (0, 0)) (zk0 BK182) hg (Kd.R_ne HO_191000.out BK182.out (by decide)))
           have n3_ := Aside0.mk (blk_grown (g := gb189) (o := .cells #[.slice Ao113 y204.length co113] 32 (0, 0)) (zk0 BK189) hg (Kd.R_ne HO_191000.out BK189.out (by decide)))
           have n4_ := Aside0.mk (blk_grown (g := gb190) (o := .cells #[u191000] 32 (0, 0)) (zk0 BK190) hg (Kd.R_ne HO_191000.out BK190.out (by decide)))
           have n5_ := Aside0.mk (blk_grown (g := gb192) (o := .cells #[.int .i64 ((rd_T60 l0_0 x9_1).f0), .int .i64 ((rd_T60 l0_0 x9_1).f1), .int .i64 ((rd_T60 l0_0 x9_1).f2), .int .i64 ((rd_T60 l0_0 x9_1).f3)] 60 (0, 0)) (zk0 BK192) hg (Kd.R_away HO_191000.out (fun _ hk => hk.2)))
           have n6_ := Aside0.mk (Kd.R_after (ok := (fun k_ => k_ ≠ gb192)) (by (with_reducible repeat (first | apply Kd.R_alloc | apply Kd.R_drewN | apply Kd.R_drew)); exact Kd.R_mono HO206.out (fun _ hk => ⟨hk.2, hk.1⟩)) hg hat)
           have n7_ := Aside0.mk (hb)
           have n8_ := Aside0.mk (ho)
           clear BK180
           clear BK181
           clear BK182
           clear BK189
           clear BK190
           clear BK192
           clear HO206
           clear HB
           clear HO_191000
           have BK180 := n0_
           have BK181 := n1_
           have BK182 := n2_
           have BK189 := n3_
           have BK190 := n4_
           have BK192 := n5_
           have HO206 := n6_
           have HB := n7_
           have HO213 := n8_
           clear n0_ n1_ n2_ n3_ n4_ n5_ n6_ n7_ n8_
           clear ho hb hg hat
           obtain ⟨Ao119, co119, eo119⟩ := Kd.R_slice HO213.out
           (first | subst eo119 | (injection eo119 with f1_ f2_ f3_; have f4_ := f1_.symm; have f5_ := f3_.symm; clear f1_ f2_ f3_; subst f4_; subst f5_))
           refine hK.out _ _ ⟨zc0 BK190 0 rfl, zc0 BK192 0 rfl, zc0 BK192 1 rfl, zc0 BK192 2 rfl, zc0 BK192 3 rfl⟩ (fun hHeld => ?_)
           clear hK K
           refine norm_ (a' := ?_) ?_ ?_
           rotate_left
           ·show Act.put _ (some 52) _ = _
            simp only [Act.put, zp1, zp2, zp3, i64_w, i32_w]
            rfl
           refine pure_ (i := 13) (N := some 53) (v := ?_) (a' := ?_) #[zT, zT, zT, zT, zT, zT, zT, zT, zT, zT, zT, zT, zT, zT, zF] rfl rfl (any_of HT_.out (by kernel_rfl)) (fun _ _ _ h => h) (Or.inl ⟨by rfl, ?_⟩) ?_ ?_
           rotate_left
           ·intro w'
            go_simp
            with_reducible rfl
           rotate_left
           ·simp only [Act.put, zp1, zp2, zp3, i64_w, i32_w]
            rfl
           refine last_ (i := 14) (N := none) #[zT, zT, zT, zT, zT, zT, zT, zT, zT, zT, zT, zT, zT, zT, zT] rfl rfl (one_of HT_.out (by kernel_rfl)) (by decide) (fun K hK => ?_)
           have hs120 : w118.cell? ⟨gb190, 0, none⟩ = some (u191000) := zc0 BK190 0 rfl
           have hfs120 := blk_frozen BK190.out 0
           have hns120_0 := NB180_190.out
           have hns120_1 := NB181_190.out
           have hns120_2 := NB182_190.out
           have hns120_3 := NB189_190.out
           have hns120_5 := NB192_190.out
           have hms120_0 := NB190_180.out
           have hms120_1 := NB190_181.out
           have hms120_2 := NB190_182.out
           have hms120_3 := NB190_189.out
           have hms120_5 := NB190_192.out
           refine skip_ (w1 := ?_) (by rfl) rfl ?_ ?_
           rotate_left
           ·go_simp
            rfl
           refine hK.out _ _ ?_
           clear hK K
           refine done_ (done_of HT_.out (by kernel_rfl)) ?_
           have hnb121 := NB192_180.out
           have hnc121 := NB180_192.out
           have hnb122 := NB192_181.out
           have hnc122 := NB181_192.out
           have hnb123 := NB192_182.out
           have hnc123 := NB182_192.out
           have hnb124 := NB192_189.out
           have hnc124 := NB189_192.out
           have hnb125 := NB192_190.out
           have hnc125 := NB190_192.out
           have hcz126_0 := zc0 BK192 0 rfl
           have hcz126_1 := zc0 BK192 1 rfl
           have hcz126_2 := zc0 BK192 2 rfl
           have hcz126_3 := zc0 BK192 3 rfl
           have hfz126_0 := blk_frozen BK192.out 0
           have hfz126_1 := blk_frozen BK192.out 1
           have hfz126_2 := blk_frozen BK192.out 2
           have hfz126_3 := blk_frozen BK192.out 3
           try go_wp2
           go_roundg kj24
           case measure => have := HK1.out; have := HJ24.out; omega
           case rel => exact ⟨(wrap64 (x8_1 + ((rd_T60 l0_0 x9_1).f2))), (wrap64 (x9_1 + 1)), (y204), (y211), (.slice Ao113 y204.length co113), (.slice Ao119 y211.length co119), (by first | rfl | (simp; done) | (simp [*]; done)), (by first | rfl | (simp; done) | (simp [*]; done)), H', ⟨by have := HK1.out; have := HJ24.out; omega⟩, ⟨by (with_reducible repeat (first | apply Kd.R_alloc | apply Kd.R_drewN | apply Kd.R_drew)); exact Kd.R_mono (Kd.R_far (p := ⟨gb190, 0, none⟩) (Kd.R_types HO206.out BK190.out (by decide)) (fun _ hk => hk.2) (.slice Ao119 y211.length co119)) (fun _ hk => hk.1.2)⟩, ⟨by (with_reducible repeat (first | apply Kd.R_alloc | apply Kd.R_drewN | apply Kd.R_drew)); exact Kd.R_mono (Kd.R_far (p := ⟨gb190, 0, none⟩) (Kd.R_types HO213.out BK190.out (by decide)) (fun _ hk => hk.2) (.slice Ao119 y211.length co119)) (fun _ hk => hk.1.1)⟩, ⟨by (with_reducible repeat (first | refine blk_drewN ?_ _ | refine blk_drew ?_ | refine blk_alloc ?_ _)); refine blk_far ?_ NB180_190.out _; (with_reducible repeat (first | refine blk_drewN ?_ _ | refine blk_drew ?_ | refine blk_alloc ?_ _)); exact BK180.out⟩, ⟨by (with_reducible repeat (first | refine blk_drewN ?_ _ | refine blk_drew ?_ | refine blk_alloc ?_ _)); refine blk_far ?_ NB181_190.out _; (with_reducible repeat (first | refine blk_drewN ?_ _ | refine blk_drew ?_ | refine blk_alloc ?_ _)); exact BK181.out⟩, ⟨by (with_reducible repeat (first | refine blk_drewN ?_ _ | refine blk_drew ?_ | refine blk_alloc ?_ _)); refine blk_far ?_ NB182_190.out _; (with_reducible repeat (first | refine blk_drewN ?_ _ | refine blk_drew ?_ | refine blk_alloc ?_ _)); exact BK182.out⟩, ⟨by (with_reducible repeat (first | refine blk_drewN ?_ _ | refine blk_drew ?_ | refine blk_alloc ?_ _)); refine blk_far ?_ NB189_190.out _; (with_reducible repeat (first | refine blk_drewN ?_ _ | refine blk_drew ?_ | refine blk_alloc ?_ _)); exact BK189.out⟩, ⟨by (with_reducible repeat (first | refine blk_drewN ?_ _ | refine blk_drew ?_ | refine blk_alloc ?_ _)); refine blk_put (cs := #[u191000]) ?_ 0 _ rfl; (with_reducible repeat (first | refine blk_drewN ?_ _ | refine blk_drew ?_ | refine blk_alloc ?_ _)); exact BK190.out⟩, ⟨by repeat (first | exact zh0 HB | refine below_set ?_ GE180.out | refine below_set ?_ GE181.out | refine below_set ?_ GE182.out | refine below_set ?_ GE189.out | refine below_set ?_ GE190.out | refine below_set ?_ GE192.out)⟩⟩
          ·rw [if_neg c109] at H
           exact absurd H (by simp)
         ·rw [if_neg c107] at H
          exact absurd H (by simp)
    ·rw [if_neg c24] at H
     exact absurd H (by simp)
   ·rw [if_neg c23] at H
    have c23b0 : decide (x9_1 < (l0_0.length : Int)) = false := decide_eq_false c23
    clear c23
    simp only [Option.some.injEq, Prod.mk.injEq] at H
    obtain ⟨rfl, rfl⟩ := H
    have hnb127 := NB180_181.out
    have hnc127 := NB181_180.out
    have hnb128 := NB180_182.out
    have hnc128 := NB182_180.out
    have hnb129 := NB180_189.out
    have hnc129 := NB189_180.out
    have hnb130 := NB180_190.out
    have hnc130 := NB190_180.out
    have hcz131_0 := zc0 BK180 0 rfl
    have hfz131_0 := blk_frozen BK180.out 0
    try go_wp2
    replace HO_190000 := Aside0.mk (Kd.R_drew HO_190000.out)
    replace HO_191000 := Aside0.mk (Kd.R_drew HO_191000.out)
    replace BK180 := Aside0.mk (blk_drew BK180.out)
    replace BK181 := Aside0.mk (blk_drew BK181.out)
    replace BK182 := Aside0.mk (blk_drew BK182.out)
    replace BK189 := Aside0.mk (blk_drew BK189.out)
    replace BK190 := Aside0.mk (blk_drew BK190.out)
    replace HB := Aside0.mk (below_drew1 HB.out)
    obtain ⟨Ao133, co133, eo133⟩ := Kd.R_slice HO_190000.out
    (first | subst eo133 | (injection eo133 with f1_ f2_ f3_; have f4_ := f1_.symm; have f5_ := f3_.symm; clear f1_ f2_ f3_; subst f4_; subst f5_))
    obtain ⟨Ao135, co135, eo135⟩ := Kd.R_slice HO_191000.out
    (first | subst eo135 | (injection eo135 with f1_ f2_ f3_; have f4_ := f1_.symm; have f5_ := f3_.symm; clear f1_ f2_ f3_; subst f4_; subst f5_))
    refine start_ (n := 4) (S := fun w' => w'.cell? ⟨gb189, 0, none⟩ = some (.slice Ao133 x190000_1.length co133) ∧ w'.cell? ⟨gb190, 0, none⟩ = some (.slice Ao135 x191000_1.length co135)) (ds := []) #[zF, zF, zF, zF] (by kernel_rfl) rfl rfl ⟨zc0 BK189 0 rfl, zc0 BK190 0 rfl⟩ (fun hHeld => ?_)
    generalize wr.drew = w132 at HO_190000 HO_191000 BK180 BK181 BK182 BK189 BK190 HB hHeld ⊢
    refine take_ (i := 0) (N := some 97) (v := ?_) (a' := ?_) #[zT, zF, zF, zF] rfl rfl (by kernel_rfl) (fun _ _ _ h => h) (Or.inl ⟨by rfl, ?_⟩) hHeld ?_ ?_
    rotate_left
    ·rintro w' ⟨s0, s1⟩
     go_simp
     with_reducible rfl
    rotate_left
    ·simp only [Act.put, zp1, zp2, zp3, i64_w, i32_w]
     rfl
    refine take_ (i := 1) (N := some 98) (v := ?_) (a' := ?_) #[zT, zT, zF, zF] rfl rfl (by kernel_rfl) (fun _ _ _ h => h) (Or.inl ⟨by rfl, ?_⟩) hHeld ?_ ?_
    rotate_left
    ·rintro w' ⟨s0, s1⟩
     go_simp
     with_reducible rfl
    rotate_left
    ·simp only [Act.put, zp1, zp2, zp3, i64_w, i32_w]
     rfl
    refine one_ (i := 2) (N := none) #[zT, zT, zT, zF] rfl rfl (by kernel_rfl) (by decide) (fun K hK => ?_)
    have hs134 : w132.cell? ⟨gb181, 0, none⟩ = some (.slice none 0 0) := zc0 BK181 0 rfl
    have hfs134 := blk_frozen BK181.out 0
    have hns134_0 := NB180_181.out
    have hns134_2 := NB182_181.out
    have hns134_3 := NB189_181.out
    have hns134_4 := NB190_181.out
    have hms134_0 := NB181_180.out
    have hms134_2 := NB181_182.out
    have hms134_3 := NB181_189.out
    have hms134_4 := NB181_190.out
    refine skip_ (w1 := ?_) (by rfl) rfl ?_ ?_
    rotate_left
    ·go_simp
     rfl
    refine hK.out _ _ ⟨((zfar NB189_181).trans (hHeld.1)), ((zfar NB190_181).trans (hHeld.2))⟩ (fun hHeld => ?_)
    clear hK K
    refine one_ (i := 3) (N := none) #[zT, zT, zT, zT] rfl rfl (by kernel_rfl) (by decide) (fun K hK => ?_)
    have hs136 : w132.cell? ⟨gb182, 0, none⟩ = some (.slice none 0 0) := zc0 BK182 0 rfl
    have hfs136 := blk_frozen BK182.out 0
    have hns136_0 := NB180_182.out
    have hns136_1 := NB181_182.out
    have hns136_3 := NB189_182.out
    have hns136_4 := NB190_182.out
    have hms136_0 := NB182_180.out
    have hms136_1 := NB182_181.out
    have hms136_3 := NB182_189.out
    have hms136_4 := NB182_190.out
    refine skip_ (w1 := ?_) (by rfl) rfl ?_ ?_
    rotate_left
    ·go_simp
     rfl
    refine hK.out _ _ ⟨((zfar NB189_182).trans (hHeld.1)), ((zfar NB190_182).trans (hHeld.2))⟩ (fun hHeld => ?_)
    clear hK K
    refine done_ (by kernel_rfl) ?_
    try go_wp2
    refine bodyPost_ret (results_cc rfl _ _ gb181 gb182 32 32 #[.slice Ao133 x190000_1.length co133] #[.slice Ao135 x191000_1.length co135] (0, 0) (0, 0) _ _ rfl (by (with_reducible repeat (first | refine blk_drewN ?_ _ | refine blk_drew ?_ | refine blk_alloc ?_ _)); refine blk_far ?_ NB181_182.out _; refine blk_put (cs := #[.slice none 0 0]) ?_ 0 _ rfl; (with_reducible repeat (first | refine blk_drewN ?_ _ | refine blk_drew ?_ | refine blk_alloc ?_ _)); exact BK181.out) Try.underlying32 rfl (by kernel_rfl) rfl (by (with_reducible repeat (first | refine blk_drewN ?_ _ | refine blk_drew ?_ | refine blk_alloc ?_ _)); refine blk_put (cs := #[.slice none 0 0]) ?_ 0 _ rfl; refine blk_far ?_ NB182_181.out _; (with_reducible repeat (first | refine blk_drewN ?_ _ | refine blk_drew ?_ | refine blk_alloc ?_ _)); exact BK182.out) Try.underlying32 rfl (by kernel_rfl)) rfl ?_
    exact ⟨_, _, by first | rfl | (simp <;> rfl) | (simp [*] <;> rfl), by (with_reducible repeat (first | apply Kd.R_alloc | apply Kd.R_drewN | apply Kd.R_drew)); exact Kd.R_mono (Kd.R_far (p := ⟨gb182, 0, none⟩) (Kd.R_far (p := ⟨gb181, 0, none⟩) (Kd.R_types (Kd.R_types HO_190000.out BK181.out (by decide)) BK182.out (by decide)) (fun _ hk => hk.1.2) (.slice Ao133 x190000_1.length co133)) (fun _ hk => hk.2) (.slice Ao135 x191000_1.length co135)) (fun _ hk => hk.1.1), by (with_reducible repeat (first | apply Kd.R_alloc | apply Kd.R_drewN | apply Kd.R_drew)); exact Kd.R_mono (Kd.R_far (p := ⟨gb182, 0, none⟩) (Kd.R_far (p := ⟨gb181, 0, none⟩) (Kd.R_types (Kd.R_types HO_191000.out BK181.out (by decide)) BK182.out (by decide)) (fun _ hk => hk.1.2) (.slice Ao133 x190000_1.length co133)) (fun _ hk => hk.2) (.slice Ao135 x191000_1.length co135)) (fun _ hk => hk.1.1), by repeat (first | exact zh0 HB | refine below_set ?_ GE180.out | refine below_set ?_ GE181.out | refine below_set ?_ GE182.out | refine below_set ?_ GE189.out | refine below_set ?_ GE190.out)⟩

open Go.Proofs.Ytdojnaghcfhadad.Cp
/-! ### spec_l1In: function 140 -/
def spec_l1In.f (a0 : Int) (a1 : Int) (a2 : Int) : Option (Bool) := if a0 ≥ a1 then (some (decide (a0 ≤ a2))) else (some false)
set_option maxHeartbeats 8000000 in
set_option maxRecDepth 100000 in
theorem spec_l1In.calls (a0 : Int) (a1 : Int) (a2 : Int) (r : Bool) (w : World) (h : spec_l1In.f a0 a1 a2 = some r) :
  Calls Try.prog 140 #[.int .i64 a0, .int .i64 a1, .int .i64 a2] w fun e w' => e = .returned (.bool r) ∧ Drawn0 w w' := by
 have H : (if a0 ≥ a1 then (some (decide (a0 ≤ a2))) else (some false)) = some r := h
 clear h
 by_cases c4 : a0 ≥ a1
 ·rw [if_pos c4] at H
  have c4b0 : decide (a1 ≤ a0) = true := decide_eq_true c4
  clear c4
  obtain rfl := Option.some.inj H
  go_enter Try.func140, Try.ntmps140
  go_wp2
  go_ret
  exact ⟨by first | rfl | (simp; done) | (simp [*]; done), by repeat (first | exact Drawn0.refl _ | apply Drawn0.step)⟩
 ·rw [if_neg c4] at H
  have c4b0 : decide (a1 ≤ a0) = false := decide_eq_false c4
  clear c4
  obtain rfl := Option.some.inj H
  go_enter Try.func140, Try.ntmps140
  go_wp2
  go_ret
  exact ⟨by first | rfl | (simp; done) | (simp [*]; done), by repeat (first | exact Drawn0.refl _ | apply Drawn0.step)⟩

open Go.Proofs.Ytdojnaghcfhadad.Cp
/-! ### spec_l2Memory: function 114 -/
mutual
def spec_l2Memory.l0 : Nat → Int → List (List Int) → Option (Bool)
 | 0, _, _ => none
 | k + 1, x3, x215000 => if x3 < (x215000.length : Int) then (spec_l2Memory.j1 k x3 (decide (x3 ≤ 16)) x215000) else (spec_l2Memory.j1 k x3 false x215000)
def spec_l2Memory.j1 : Nat → Int → Bool → List (List Int) → Option (Bool)
 | 0, _, _, _ => none
 | k + 1, x3, x12, x215000 => if x12 = true then (if 0 ≤ x3 then (if x3 < (x215000.length : Int) then ((spec_l1In.f ((rd_L1 x215000 x3).length : Int) 1 64).bind fun t216 => (if t216 = true then (spec_l2Memory.l0 k (wrap64 (x3 + 1)) x215000) else (some false))) else (none)) else (none)) else (some (decide ((x215000.length : Int) ≤ 16)))
end
def spec_l2Memory.f (k : Nat) (l0_0 : List (List Int)) : Option (Bool) := spec_l2Memory.l0 k 0 l0_0
theorem spec_l2Memory.mono_l : ∀ k, (∀ y0 y1, LeO (spec_l2Memory.l0 k y0 y1) (spec_l2Memory.l0 (k + 1) y0 y1)) ∧ (∀ y0 y1 y2, LeO (spec_l2Memory.j1 k y0 y1 y2) (spec_l2Memory.j1 (k + 1) y0 y1 y2))
 | 0 => ⟨fun _ _ r h => by simp [spec_l2Memory.l0] at h, fun _ _ _ r h => by simp [spec_l2Memory.j1] at h⟩
 | k + 1 => by
  obtain ⟨ih0, ih1⟩ := spec_l2Memory.mono_l k
  refine ⟨?_, ?_⟩
  ·intro y0 y1
   unfold spec_l2Memory.l0
   repeat' first
   | (with_reducible exact ih0 _ _)
   | (with_reducible exact ih1 _ _ _)
   | (with_reducible exact LeO.refl _)
   | (with_reducible exact LeO.none _)
   | (with_reducible refine LeO.ite ?_ ?_)
   | (with_reducible refine LeO.bind ?_ (fun _ => ?_))
   | exact ih0 _ _
   | exact ih1 _ _ _
   | exact LeO.none _
   | refine LeO.ite ?_ ?_
   | refine LeO.bind ?_ (fun _ => ?_)
  ·intro y0 y1 y2
   unfold spec_l2Memory.j1
   repeat' first
   | (with_reducible exact ih0 _ _)
   | (with_reducible exact ih1 _ _ _)
   | (with_reducible exact LeO.refl _)
   | (with_reducible exact LeO.none _)
   | (with_reducible refine LeO.ite ?_ ?_)
   | (with_reducible refine LeO.bind ?_ (fun _ => ?_))
   | exact ih0 _ _
   | exact ih1 _ _ _
   | exact LeO.none _
   | refine LeO.ite ?_ ?_
   | refine LeO.bind ?_ (fun _ => ?_)
theorem spec_l2Memory.mono : ∀ a0 k, LeO (spec_l2Memory.f k a0) (spec_l2Memory.f (k + 1) a0) := by
 intro a0 k
 obtain ⟨ih0, ih1⟩ := spec_l2Memory.mono_l k
 unfold spec_l2Memory.f
 repeat' first
   | (with_reducible exact ih0 _ _)
   | (with_reducible exact ih1 _ _ _)
   | (with_reducible exact LeO.refl _)
   | (with_reducible exact LeO.none _)
   | (with_reducible refine LeO.ite ?_ ?_)
   | (with_reducible refine LeO.bind ?_ (fun _ => ?_))
   | exact ih0 _ _
   | exact ih1 _ _ _
   | exact LeO.none _
   | refine LeO.ite ?_ ?_
   | refine LeO.bind ?_ (fun _ => ?_)
set_option maxHeartbeats 8000000 in
set_option maxRecDepth 100000 in
theorem spec_l2Memory.calls (k : Nat) (A0_0 : Option Addr) (c0_0 : Nat) (l0_0 : List (List Int)) (r : Bool) (w : World) (hr0_0 : Kd.C (Kd.slice 5 (Kd.int .u8)) w A0_0 l0_0.length l0_0) (hc0_0 : l0_0.length ≤ c0_0) (h : spec_l2Memory.f k l0_0 = some r) :
  Calls Try.prog 114 #[.agg #[.slice A0_0 l0_0.length c0_0]] w fun e w' => e = .returned (.bool r) ∧ Below w.heap.size w w' := by
 have hu35 := Try.underlying35
 have HR0_0 := Aside0.mk hr0_0
 have HC0_0 := Aside0.mk hc0_0
 clear hr0_0 hc0_0
 have HB := Aside0.mk (Below.refl w.heap.size w)
 have H : (spec_l2Memory.l0 k 0 l0_0) = some r := h
 clear h
 have H' := Aside0.mk H
 clear H
 go_enter Try.func114, Try.ntmps114
 go_wp2_with (first | ((with_reducible refine gate_dst (N := 1) rfl ?_); refine box_event ?hg (N := 1) ?hd (cs := #[.slice A0_0 l0_0.length c0_0]) (t := 35) ?hr ?_; (case hd => rfl); (case hg => rfl); (case hr => first | (go_simp; done) | (go_simp; rfl)); intro gb214 hg w2 hbox hb; have BK214 := Aside0.mk (hbox); have GW214 := zge HB hg; have GE214 := zge HB hg; replace HB := zhs HB hb; clear hb hbox hg))
 go_loopg [3] k (fun kq v3 w' => ∃ (x3_1 : Int), v3 = .int .i64 x3_1 ∧ Aside0 (spec_l2Memory.l0 kq x3_1 l0_0 = some r) ∧ Aside0 (kq ≤ k) ∧ Aside0 (w'.heap[gb214]? = some (.cells #[(.slice A0_0 l0_0.length c0_0)] 35 (0, 0))) ∧ Aside0 (Below w.heap.size w w'))
 case atStart => exact ⟨(0), (by first | rfl | (simp; done) | (simp [*]; done)), H', ⟨Nat.le_refl _⟩, ⟨zk0 BK214⟩, ⟨by repeat (first | exact zh0 HB | refine below_set ?_ GE214.out)⟩⟩
 case round =>
  clear H'
  try clear c1
  try clear p2
  obtain ⟨x3_1, rfl, HA, HK1, BK214, HB⟩ := hrel
  cases gk with
  | zero => exact absurd HA.out (by simp [spec_l2Memory.l0])
  | succ k1 =>
   have H := HA.out
   clear HA
   simp only [spec_l2Memory.l0] at H
   have HC3 := Aside0.mk H
   clear H
   go_upto_region 2 with (fail)
   go_cut [12] (fun v12 wc => ∃ (kq : Nat) (x12_2 : Bool), v12 = .bool x12_2 ∧ Aside0 (spec_l2Memory.j1 kq x3_1 x12_2 l0_0 = some r) ∧ Aside0 (kq ≤ k1) ∧ Aside0 (wc.heap[gb214]? = some (.cells #[(.slice A0_0 l0_0.length c0_0)] 35 (0, 0))) ∧ Aside0 (Below w.heap.size w wc))
   case first =>
    have H := HC3.out
    clear HC3
    by_cases c4 : x3_1 < (l0_0.length : Int)
    ·rw [if_pos c4] at H
     have c4b0 : decide (x3_1 < (l0_0.length : Int)) = true := decide_eq_true c4
     clear c4
     (first | rw [c4b0] | (simp only [i64_w, i32_w]; rw [c4b0]) | skip)
     have H' := Aside0.mk H
     clear H
     have hcz5_0 := zc0 BK214 0 rfl
     have hfz5_0 := blk_frozen BK214.out 0
     go_wp2
     go_meet
     case rel => exact ⟨_, (decide (x3_1 ≤ 16)), (by first | rfl | (simp; done) | (simp [*]; done)), H', ⟨by have := HK1.out; first | omega | exact Nat.le_refl _⟩, ⟨zk0 BK214⟩, ⟨by repeat (first | exact zh0 HB | refine below_set ?_ GE214.out)⟩⟩
    ·rw [if_neg c4] at H
     have c4b0 : decide (x3_1 < (l0_0.length : Int)) = false := decide_eq_false c4
     clear c4
     (first | rw [c4b0] | (simp only [i64_w, i32_w]; rw [c4b0]) | skip)
     have H' := Aside0.mk H
     clear H
     have hcz6_0 := zc0 BK214 0 rfl
     have hfz6_0 := blk_frozen BK214.out 0
     go_wp2
     go_meet
     case rel => exact ⟨_, (false), (by first | rfl | (simp; done) | (simp [*]; done)), H', ⟨by have := HK1.out; first | omega | exact Nat.le_refl _⟩, ⟨zk0 BK214⟩, ⟨by repeat (first | exact zh0 HB | refine below_set ?_ GE214.out)⟩⟩
   case rest =>
    clear HC3
    try clear c1
    try clear p2
    try clear c4
    try clear c4b0
    try clear hcz5_0
    try clear hcz6_0
    try clear hfz5_0
    try clear hfz6_0
    try clear p2
    obtain ⟨kq, x12_2, rfl, HA, HJ2, BK214, HB⟩ := hcut
    cases kq with
    | zero => exact absurd HA.out (by simp [spec_l2Memory.j1])
    | succ kj2 =>
     have H := HA.out
     clear HA
     simp only [spec_l2Memory.j1] at H
     by_cases c7 : x12_2 = true
     ·subst c7
      have H1 : (if 0 ≤ x3_1 then (if x3_1 < (l0_0.length : Int) then ((spec_l1In.f ((rd_L1 l0_0 x3_1).length : Int) 1 64).bind fun t216 => (if t216 = true then (spec_l2Memory.l0 kj2 (wrap64 (x3_1 + 1)) l0_0) else (some false))) else (none)) else (none)) = some r := by rw [if_pos rfl] at H; exact H
      clear H
      have H := H1
      clear H1
      by_cases c8 : 0 ≤ x3_1
      ·rw [if_pos c8] at H
       have c8b0 : decide (0 ≤ x3_1) = true := decide_eq_true c8
       clear c8
       by_cases c9 : x3_1 < (l0_0.length : Int)
       ·rw [if_pos c9] at H
        have c9b0 : decide (x3_1 < (l0_0.length : Int)) = true := decide_eq_true c9
        clear c9
        replace H := Option.bind_eq_some_iff.mp H
        obtain ⟨t216, A100, H⟩ := H
        replace H : (if t216 = true then (spec_l2Memory.l0 kj2 (wrap64 (x3_1 + 1)) l0_0) else (some false)) = some r := H
        have A10 := Aside0.mk A100
        clear A100
        by_cases c11 : t216 = true
        ·subst c11
         have H1 : (spec_l2Memory.l0 kj2 (wrap64 (x3_1 + 1)) l0_0) = some r := by rw [if_pos rfl] at H; exact H
         clear H
         have H := H1
         clear H1
         have H' := Aside0.mk H
         clear H
         have hcz12_0 := zc0 BK214 0 rfl
         have hfz12_0 := blk_frozen BK214.out 0
         have p215 : 0 ≤ (x3_1 : Int) := of_decide_eq_true (by first | (with_reducible assumption) | assumption)
         have q215 : x3_1 < (l0_0.length : Int) := of_decide_eq_true (by first | (with_reducible assumption) | assumption)
         obtain ⟨ad215, A215_0, c215_0, e215, hx215_0, hl215_0, hi215_0⟩ := at_L1 HR0_0.out x3_1 p215 q215
         cases e215
         replace hx215_0 := (HB.out.cell (World.block_lt_of_cell? w _ hx215_0)).trans hx215_0
         have HR215_0 := Aside0.mk hi215_0
         have HC215_0 := Aside0.mk hl215_0
         clear hi215_0 hl215_0
         replace p215 := eq_true p215
         replace q215 := eq_true q215
         go_wp2_with (first | ((with_reducible refine gate_callee (f := 140) rfl ?_); refine goesL_ (some 21) rfl rfl Try.func140 (by kernel_rfl) rfl #[.int .i64 ((rd_L1 l0_0 x3_1).length : Int), .int .i64 1, .int .i64 64] rfl (by (try simp only [zq1, zq2, zq3]); first | done | rfl | (simp only [List.length_drop, List.length_take]; rfl)) ?_; (with_reducible refine (spec_l1In.calls ((rd_L1 l0_0 x3_1).length : Int) 1 64 true _ A10.out).mono ?_); rintro e w' ⟨rfl, ⟨nd, rfl⟩⟩; refine ⟨_, rfl, ?_⟩))
         go_roundg kj2
         case measure => have := HK1.out; have := HJ2.out; omega
         case rel => exact ⟨(wrap64 (x3_1 + 1)), (by first | rfl | (simp; done) | (simp [*]; done)), H', ⟨by have := HK1.out; have := HJ2.out; omega⟩, ⟨zk0 BK214⟩, ⟨by repeat (first | exact zh0 HB | refine below_set ?_ GE214.out)⟩⟩
        ·replace c11 := Bool.eq_false_iff.mpr c11
         subst c11
         have H1 : (some false) = some r := by rw [if_neg (show ¬ (false = true) by decide)] at H; exact H
         clear H
         have H := H1
         clear H1
         obtain rfl := Option.some.inj H
         have hcz13_0 := zc0 BK214 0 rfl
         have hfz13_0 := blk_frozen BK214.out 0
         have p215 : 0 ≤ (x3_1 : Int) := of_decide_eq_true (by first | (with_reducible assumption) | assumption)
         have q215 : x3_1 < (l0_0.length : Int) := of_decide_eq_true (by first | (with_reducible assumption) | assumption)
         obtain ⟨ad215, A215_0, c215_0, e215, hx215_0, hl215_0, hi215_0⟩ := at_L1 HR0_0.out x3_1 p215 q215
         cases e215
         replace hx215_0 := (HB.out.cell (World.block_lt_of_cell? w _ hx215_0)).trans hx215_0
         have HR215_0 := Aside0.mk hi215_0
         have HC215_0 := Aside0.mk hl215_0
         clear hi215_0 hl215_0
         replace p215 := eq_true p215
         replace q215 := eq_true q215
         go_wp2_with (first | ((with_reducible refine gate_callee (f := 140) rfl ?_); refine goesL_ (some 21) rfl rfl Try.func140 (by kernel_rfl) rfl #[.int .i64 ((rd_L1 l0_0 x3_1).length : Int), .int .i64 1, .int .i64 64] rfl (by (try simp only [zq1, zq2, zq3]); first | done | rfl | (simp only [List.length_drop, List.length_take]; rfl)) ?_; (with_reducible refine (spec_l1In.calls ((rd_L1 l0_0 x3_1).length : Int) 1 64 false _ A10.out).mono ?_); rintro e w' ⟨rfl, ⟨nd, rfl⟩⟩; refine ⟨_, rfl, ?_⟩))
         go_ret
         exact ⟨by first | rfl | (simp <;> rfl) | (simp [*] <;> rfl), by repeat (first | exact zh0 HB | refine below_set ?_ GE214.out)⟩
       ·rw [if_neg c9] at H
        exact absurd H (by simp)
      ·rw [if_neg c8] at H
       exact absurd H (by simp)
     ·replace c7 := Bool.eq_false_iff.mpr c7
      subst c7
      have H1 : (some (decide ((l0_0.length : Int) ≤ 16))) = some r := by rw [if_neg (show ¬ (false = true) by decide)] at H; exact H
      clear H
      have H := H1
      clear H1
      obtain rfl := Option.some.inj H
      have hcz14_0 := zc0 BK214 0 rfl
      have hfz14_0 := blk_frozen BK214.out 0
      go_wp2
      go_ret
      exact ⟨by first | rfl | (simp <;> rfl) | (simp [*] <;> rfl), by repeat (first | exact zh0 HB | refine below_set ?_ GE214.out)⟩

end Go.Proofs.Ytdojnaghcfhadad.PFnExactPartText
