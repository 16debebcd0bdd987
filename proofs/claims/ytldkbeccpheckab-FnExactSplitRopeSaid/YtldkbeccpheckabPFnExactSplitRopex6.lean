/- What is proved here: each Go function that is named below answers, and leaves memory, as the theorem of its name says; no condition beyond those that each theorem states. Laid by this session's own program (wip/driver.py) over the kit's print. -/
import Derived.Test.YtldkbeccpheckabPFnExactSplitRopex0
import Derived.Test.YtldkbeccpheckabPFnExactSplitRopex1
import Derived.Test.YtldkbeccpheckabPFnExactSplitRopex2
import Derived.Test.YtldkbeccpheckabPFnExactSplitRopex4
import Derived.Test.YtldkbeccpheckabPFnExactSplitRopex5
namespace Go.Proofs.Ytldkbeccpheckab.PFnExactSplitRope
open Go.RowKit Go.Proofs.YtldkbeccpheckabW.PrintWords Go.Proofs.YtldkbeccpheckabW.PrintLast Go.Proofs.YtldkbeccpheckabW.PrintMore
attribute [local go_sem] max2_int min2_int max_two min_two max_three min_three max_four min_four   -- for this text's walks alone
set_option linter.unusedVariables false
set_option linter.unusedSimpArgs false

open Go.Proofs.Ytldkbeccpheckab.Cp
/-! ### impl_Rope_split: function 102 -/
mutual
def impl_Rope_split.l0 : Nat → Int → List (S61) → List (S61) → Int → List (S61) → Int → Int → List (S61) → Option ((List (S61)) × (List (S61)))
 | 0, _, _, _, _, _, _, _, _ => none
 | k + 1, x1, x6, x7, x8, x15, x16, x17, x267000 => if x17 < x16 then (if 0 ≤ x17 then (if x17 < (x15.length : Int) then (if ((rd_T61 x15 x17).f2) = 0 then (if (wrap64 (x1 - x8)) > 0 then (impl_Rope_split.j1 k x1 x6 x7 x8 (wrap64 (x1 - x8)) x15 x16 x17 true x267000 ((rd_T61 x15 x17).f0) ((rd_T61 x15 x17).f1) ((rd_T61 x15 x17).f2) ((rd_T61 x15 x17).f3)) else ((impl_Rope_length.f k x267000).bind fun t275 => (impl_Rope_split.j1 k x1 x6 x7 x8 (wrap64 (x1 - x8)) x15 x16 x17 (x1 == t275) x267000 ((rd_T61 x15 x17).f0) ((rd_T61 x15 x17).f1) ((rd_T61 x15 x17).f2) ((rd_T61 x15 x17).f3)))) else (impl_Rope_split.j1 k x1 x6 x7 x8 (wrap64 (x1 - x8)) x15 x16 x17 false x267000 ((rd_T61 x15 x17).f0) ((rd_T61 x15 x17).f1) ((rd_T61 x15 x17).f2) ((rd_T61 x15 x17).f3))) else (none)) else (none)) else (some (x6, x7))
def impl_Rope_split.j1 : Nat → Int → List (S61) → List (S61) → Int → Int → List (S61) → Int → Int → Bool → List (S61) → Int → Int → Int → Int → Option ((List (S61)) × (List (S61)))
 | 0, _, _, _, _, _, _, _, _, _, _, _, _, _, _ => none
 | k + 1, x1, x6, x7, x8, x11, x15, x16, x17, x48, x267000, x275000, x275001, x275002, x275003 => if x48 = true then (impl_Rope_split.j2 k x1 x6 x7 x8 x11 x15 x16 x17 x48 x267000 x275000 x275001 x275002 x275003) else (if x275002 > 0 then (impl_Rope_split.j2 k x1 x6 x7 x8 x11 x15 x16 x17 (decide (x11 ≥ x275002)) x267000 x275000 x275001 x275002 x275003) else (impl_Rope_split.j2 k x1 x6 x7 x8 x11 x15 x16 x17 false x267000 x275000 x275001 x275002 x275003))
def impl_Rope_split.j2 : Nat → Int → List (S61) → List (S61) → Int → Int → List (S61) → Int → Int → Bool → List (S61) → Int → Int → Int → Int → Option ((List (S61)) × (List (S61)))
 | 0, _, _, _, _, _, _, _, _, _, _, _, _, _, _ => none
 | k + 1, x1, x6, x7, x8, x11, x15, x16, x17, x48, x267000, x275000, x275001, x275002, x275003 => if x48 = true then (if x6.length < 4398046511104 then (impl_Rope_split.l0 k x1 (x6 ++ [(⟨x275000, x275001, x275002, x275003⟩ : S61)]) x7 (wrap64 (x8 + x275002)) x15 x16 (wrap64 (x17 + 1)) x267000) else (none)) else (if x11 ≤ 0 then (if x7.length < 4398046511104 then (impl_Rope_split.l0 k x1 x6 (x7 ++ [(⟨x275000, x275001, x275002, x275003⟩ : S61)]) (wrap64 (x8 + x275002)) x15 x16 (wrap64 (x17 + 1)) x267000) else (none)) else ((impl_Window_part.f x275000 x275001 x275002 x275003 0 x11).bind fun bt282 => (if x6.length < 4398046511104 then (if x7.length < 4398046511104 then (impl_Rope_split.l0 k x1 (x6 ++ [(⟨bt282.1, bt282.2.1, bt282.2.2.1, bt282.2.2.2⟩ : S61)]) (x7 ++ [(⟨x275000, wrap64 (x275001 + x11), wrap64 (x275002 - x11), wrap64 (x275003 - x11)⟩ : S61)]) (wrap64 (x8 + x275002)) x15 x16 (wrap64 (x17 + 1)) x267000) else (none)) else (none))))
end
def impl_Rope_split.f (k : Nat) (l0_0 : List (S61)) (a1 : Int) : Option ((List (S61)) × (List (S61))) := impl_Rope_split.l0 k a1 (([] : List (S61))) (([] : List (S61))) 0 l0_0 (l0_0.length : Int) 0 l0_0
theorem impl_Rope_split.mono_l : ∀ k, (∀ y0 y1 y2 y3 y4 y5 y6 y7, LeO (impl_Rope_split.l0 k y0 y1 y2 y3 y4 y5 y6 y7) (impl_Rope_split.l0 (k + 1) y0 y1 y2 y3 y4 y5 y6 y7)) ∧ (∀ y0 y1 y2 y3 y4 y5 y6 y7 y8 y9 y10 y11 y12 y13, LeO (impl_Rope_split.j1 k y0 y1 y2 y3 y4 y5 y6 y7 y8 y9 y10 y11 y12 y13) (impl_Rope_split.j1 (k + 1) y0 y1 y2 y3 y4 y5 y6 y7 y8 y9 y10 y11 y12 y13)) ∧ (∀ y0 y1 y2 y3 y4 y5 y6 y7 y8 y9 y10 y11 y12 y13, LeO (impl_Rope_split.j2 k y0 y1 y2 y3 y4 y5 y6 y7 y8 y9 y10 y11 y12 y13) (impl_Rope_split.j2 (k + 1) y0 y1 y2 y3 y4 y5 y6 y7 y8 y9 y10 y11 y12 y13))
 | 0 => ⟨fun _ _ _ _ _ _ _ _ r h => by simp [impl_Rope_split.l0] at h, fun _ _ _ _ _ _ _ _ _ _ _ _ _ _ r h => by simp [impl_Rope_split.j1] at h, fun _ _ _ _ _ _ _ _ _ _ _ _ _ _ r h => by simp [impl_Rope_split.j2] at h⟩
 | k + 1 => by
  obtain ⟨ih0, ih1, ih2⟩ := impl_Rope_split.mono_l k
  refine ⟨?_, ?_, ?_⟩
  ·intro y0 y1 y2 y3 y4 y5 y6 y7
   unfold impl_Rope_split.l0
   repeat' first
   | (with_reducible exact ih0 _ _ _ _ _ _ _ _)
   | (with_reducible exact ih1 _ _ _ _ _ _ _ _ _ _ _ _ _ _)
   | (with_reducible exact ih2 _ _ _ _ _ _ _ _ _ _ _ _ _ _)
   | (with_reducible exact impl_Rope_length.mono _ _)
   | (with_reducible exact LeO.refl _)
   | (with_reducible exact LeO.none _)
   | (with_reducible refine LeO.ite ?_ ?_)
   | (with_reducible refine LeO.bind ?_ (fun _ => ?_))
   | exact ih0 _ _ _ _ _ _ _ _
   | exact ih1 _ _ _ _ _ _ _ _ _ _ _ _ _ _
   | exact ih2 _ _ _ _ _ _ _ _ _ _ _ _ _ _
   | exact impl_Rope_length.mono _ _
   | exact LeO.none _
   | refine LeO.ite ?_ ?_
   | refine LeO.bind ?_ (fun _ => ?_)
  ·intro y0 y1 y2 y3 y4 y5 y6 y7 y8 y9 y10 y11 y12 y13
   unfold impl_Rope_split.j1
   repeat' first
   | (with_reducible exact ih0 _ _ _ _ _ _ _ _)
   | (with_reducible exact ih1 _ _ _ _ _ _ _ _ _ _ _ _ _ _)
   | (with_reducible exact ih2 _ _ _ _ _ _ _ _ _ _ _ _ _ _)
   | (with_reducible exact impl_Rope_length.mono _ _)
   | (with_reducible exact LeO.refl _)
   | (with_reducible exact LeO.none _)
   | (with_reducible refine LeO.ite ?_ ?_)
   | (with_reducible refine LeO.bind ?_ (fun _ => ?_))
   | exact ih0 _ _ _ _ _ _ _ _
   | exact ih1 _ _ _ _ _ _ _ _ _ _ _ _ _ _
   | exact ih2 _ _ _ _ _ _ _ _ _ _ _ _ _ _
   | exact impl_Rope_length.mono _ _
   | exact LeO.none _
   | refine LeO.ite ?_ ?_
   | refine LeO.bind ?_ (fun _ => ?_)
  ·intro y0 y1 y2 y3 y4 y5 y6 y7 y8 y9 y10 y11 y12 y13
   unfold impl_Rope_split.j2
   repeat' first
   | (with_reducible exact ih0 _ _ _ _ _ _ _ _)
   | (with_reducible exact ih1 _ _ _ _ _ _ _ _ _ _ _ _ _ _)
   | (with_reducible exact ih2 _ _ _ _ _ _ _ _ _ _ _ _ _ _)
   | (with_reducible exact impl_Rope_length.mono _ _)
   | (with_reducible exact LeO.refl _)
   | (with_reducible exact LeO.none _)
   | (with_reducible refine LeO.ite ?_ ?_)
   | (with_reducible refine LeO.bind ?_ (fun _ => ?_))
   | exact ih0 _ _ _ _ _ _ _ _
   | exact ih1 _ _ _ _ _ _ _ _ _ _ _ _ _ _
   | exact ih2 _ _ _ _ _ _ _ _ _ _ _ _ _ _
   | exact impl_Rope_length.mono _ _
   | exact LeO.none _
   | refine LeO.ite ?_ ?_
   | refine LeO.bind ?_ (fun _ => ?_)
theorem impl_Rope_split.mono : ∀ a0 a1 k, LeO (impl_Rope_split.f k a0 a1) (impl_Rope_split.f (k + 1) a0 a1) := by
 intro a0 a1 k
 obtain ⟨ih0, ih1, ih2⟩ := impl_Rope_split.mono_l k
 unfold impl_Rope_split.f
 repeat' first
   | (with_reducible exact ih0 _ _ _ _ _ _ _ _)
   | (with_reducible exact ih1 _ _ _ _ _ _ _ _ _ _ _ _ _ _)
   | (with_reducible exact ih2 _ _ _ _ _ _ _ _ _ _ _ _ _ _)
   | (with_reducible exact impl_Rope_length.mono _ _)
   | (with_reducible exact LeO.refl _)
   | (with_reducible exact LeO.none _)
   | (with_reducible refine LeO.ite ?_ ?_)
   | (with_reducible refine LeO.bind ?_ (fun _ => ?_))
   | exact ih0 _ _ _ _ _ _ _ _
   | exact ih1 _ _ _ _ _ _ _ _ _ _ _ _ _ _
   | exact ih2 _ _ _ _ _ _ _ _ _ _ _ _ _ _
   | exact impl_Rope_length.mono _ _
   | exact LeO.none _
   | refine LeO.ite ?_ ?_
   | refine LeO.bind ?_ (fun _ => ?_)
set_option maxHeartbeats 8000000 in
set_option maxRecDepth 100000 in
theorem impl_Rope_split.calls (k : Nat) (A0_0 : Option Addr) (c0_0 : Nat) (l0_0 : List (S61)) (a1 : Int) (r1 : List (S61)) (r2 : List (S61)) (w : World) (hr0_0 : Kd.C k61 w A0_0 l0_0.length l0_0) (hc0_0 : l0_0.length ≤ c0_0) (h : impl_Rope_split.f k l0_0 a1 = some (r1, r2)) :
  Calls Try.prog 102 #[.agg #[.slice A0_0 l0_0.length c0_0], .int .i64 a1] w fun e w' => ∃ v0_ v1_ : Value, e = .returned (.tuple #[v0_, v1_]) ∧ Kd.R k61 61 w' w.heap.size (fun k_ => some k_ ≠ (v1_ : Value).ownBlock) v0_ r1 ∧ Kd.R k61 61 w' w.heap.size (fun k_ => some k_ ≠ (v0_ : Value).ownBlock) v1_ r2 ∧ Below w.heap.size w w' := by
 have hu32 := Try.underlying32
 have hu61 := Try.underlying61
 have HR0_0 := Aside0.mk hr0_0
 have HC0_0 := Aside0.mk hc0_0
 clear hr0_0 hc0_0
 have HB := Aside0.mk (Below.refl w.heap.size w)
 have H : (impl_Rope_split.l0 k a1 (([] : List (S61))) (([] : List (S61))) 0 l0_0 (l0_0.length : Int) 0 l0_0) = some (r1, r2) := h
 clear h
 obtain ⟨y267, hy267⟩ : ∃ y_ : List (S61), y_ = (([] : List (S61))) := ⟨_, rfl⟩
 replace H : (impl_Rope_split.l0 k a1 y267 (([] : List (S61))) 0 l0_0 (l0_0.length : Int) 0 l0_0) = some (r1, r2) := by first | (rw [hy267]; with_reducible exact H) | (have H2_ := (Option.bind_some _ _).symm.trans H; rw [hy267]; with_reducible exact H2_) | (have H2_ := (Option.bind_some _ _).symm.trans H; with_reducible exact H2_) | with_reducible exact H | (rw [hy267]; exact H) | exact H
 have Ny267 := Aside0.mk hy267
 clear hy267
 obtain ⟨y270, hy270⟩ : ∃ y_ : List (S61), y_ = (([] : List (S61))) := ⟨_, rfl⟩
 replace H : (impl_Rope_split.l0 k a1 y267 y270 0 l0_0 (l0_0.length : Int) 0 l0_0) = some (r1, r2) := by first | (rw [hy270]; with_reducible exact H) | (have H2_ := (Option.bind_some _ _).symm.trans H; rw [hy270]; with_reducible exact H2_) | (have H2_ := (Option.bind_some _ _).symm.trans H; with_reducible exact H2_) | with_reducible exact H | (rw [hy270]; exact H) | exact H
 have Ny270 := Aside0.mk hy270
 clear hy270
 have H' := Aside0.mk H
 clear H
 go_enter Try.func102, Try.ntmps102
 go_wp2_with (first | ((with_reducible refine gate_dst (N := 2) rfl ?_); refine box_event ?hg (N := 2) ?hd (cs := #[.slice A0_0 l0_0.length c0_0]) (t := 32) ?hr ?_; (case hd => rfl); (case hg => rfl); (case hr => first | (go_simp; done) | (go_simp; rfl)); intro gb266 hg w3 hbox hb; have BK266 := Aside0.mk (hbox); have GW266 := zge HB hg; have GE266 := zge HB hg; replace HB := zhs HB hb; clear hb hbox hg) | ((with_reducible refine gate_dst (N := 12) rfl ?_); refine Kd.R_lit k61 _ 61 ?hg (N := 12) ?hd (xs := ([] : List (S61))) (inner := []) (ok := fun _ => True) (okp := fun _ => True) ?hr ?hp (fun _ hk => hk) trivial (Below.refl _ _) (Nat.le_refl _) (by simp) ?_; (case hd => rfl); (case hg => rfl); (case hr => first | (go_simp; done) | (go_simp; rfl)); (case hp => exact (Reps.none _ _)); intro v268 w4 ho5 hb hg_ hnew_; clear hg_ hnew_; (first | rw [← Ny267.out] at ho5 | (simp only [Int.reduceToNat] at ho5; rw [← Ny267.out] at ho5)); have HO269 := Aside0.mk (Kd.R_lower ho5 (below_size (zh0 HB))); replace BK266 := zb0 BK266 hb; replace HB := zhs HB hb; clear hb ho5) | ((with_reducible refine gate_dst (N := 13) rfl ?_); refine Kd.R_lit k61 _ 61 ?hg (N := 13) ?hd (xs := ([] : List (S61))) (inner := []) (ok := fun _ => True) (okp := fun _ => True) ?hr ?hp (fun _ hk => hk) trivial (Below.refl _ _) (Nat.le_refl _) (by simp) ?_; (case hd => rfl); (case hg => rfl); (case hr => first | (go_simp; done) | (go_simp; rfl)); (case hp => exact (Reps.none _ _)); intro v271 w6 ho7 hb hg_ hnew_; clear hg_ hnew_; (first | rw [← Ny270.out] at ho7 | (simp only [Int.reduceToNat] at ho7; rw [← Ny270.out] at ho7)); have HO272 := Aside0.mk (Kd.R_lower (Kd.R_new' ho7 (Kd.R_lt (zr0 HO269))) (below_size (zh0 HB))); replace HO269 := Aside0.mk (Kd.R_elder' (zr0 HO269) (Kd.R_base ho7) hb); replace BK266 := zb0 BK266 hb; replace HB := zhs HB hb; clear hb ho7; have hcz8_0 := zc0 BK266 0 rfl; have hfz8_0 := blk_frozen BK266.out 0))
 go_loopg [6, 7, 8, 17] k (fun kq v6 v7 v8 v17 w' => ∃ (x6_1 : List (S61)) (x7_1 : List (S61)) (x8_1 : Int) (x17_1 : Int), v8 = .int .i64 x8_1 ∧ v17 = .int .i64 x17_1 ∧ Aside0 (impl_Rope_split.l0 kq a1 x6_1 x7_1 x8_1 l0_0 (l0_0.length : Int) x17_1 l0_0 = some (r1, r2)) ∧ Aside0 (kq ≤ k) ∧ Aside0 (Kd.R k61 61 w' w.heap.size (fun k_ => some k_ ≠ (v7 : Value).ownBlock) v6 x6_1) ∧ Aside0 (Kd.R k61 61 w' w.heap.size (fun k_ => some k_ ≠ (v6 : Value).ownBlock) v7 x7_1) ∧ Aside0 (w'.heap[gb266]? = some (.cells #[(.slice A0_0 l0_0.length c0_0)] 32 (0, 0))) ∧ Aside0 (Below w.heap.size w w'))
 case atStart => exact ⟨(y267), (y270), (0), (0), (by first | rfl | (simp; done) | (simp [*]; done)), (by first | rfl | (simp; done) | (simp [*]; done)), H', ⟨Nat.le_refl _⟩, ⟨by (with_reducible repeat (first | apply Kd.R_alloc | apply Kd.R_drewN | apply Kd.R_drew)); exact Kd.R_mono HO269.out (fun _ hk => hk.2)⟩, ⟨by (with_reducible repeat (first | apply Kd.R_alloc | apply Kd.R_drewN | apply Kd.R_drew)); exact Kd.R_mono HO272.out (fun _ hk => hk.2)⟩, ⟨zk0 BK266⟩, ⟨by repeat (first | exact zh0 HB | refine below_set ?_ GE266.out)⟩⟩
 case round =>
  clear H'
  try clear c1
  try clear p2
  try clear hcz8_0
  try clear hfz8_0
  obtain ⟨x6_1, x7_1, x8_1, x17_1, rfl, rfl, HA, HK1, HO_6, HO_7, BK266, HB⟩ := hrel
  cases gk with
  | zero => exact absurd HA.out (by simp [impl_Rope_split.l0])
  | succ k1 =>
   have H := HA.out
   clear HA
   simp only [impl_Rope_split.l0] at H
   by_cases c9 : x17_1 < (l0_0.length : Int)
   ·rw [if_pos c9] at H
    have c9b0 : decide (x17_1 < (l0_0.length : Int)) = true := decide_eq_true c9
    clear c9
    by_cases c10 : 0 ≤ x17_1
    ·rw [if_pos c10] at H
     have c10b0 : decide (0 ≤ x17_1) = true := decide_eq_true c10
     clear c10
     by_cases c11 : x17_1 < (l0_0.length : Int)
     ·rw [if_pos c11] at H
      have c11b0 : decide (x17_1 < (l0_0.length : Int)) = true := decide_eq_true c11
      clear c11
      have HC12 := Aside0.mk H
      clear H
      have p273 : 0 ≤ (x17_1 : Int) := of_decide_eq_true (by first | (with_reducible assumption) | assumption)
      have q273 : x17_1 < (l0_0.length : Int) := of_decide_eq_true (by first | (with_reducible assumption) | assumption)
      obtain ⟨ad273, e273, hx273_0, hx273_1, hx273_2, hx273_3⟩ := at_T61 HR0_0.out x17_1 p273 q273
      cases e273
      replace hx273_0 := (HB.out.cell (World.block_lt_of_cell? w _ hx273_0)).trans hx273_0
      replace hx273_1 := (HB.out.cell (World.block_lt_of_cell? w _ hx273_1)).trans hx273_1
      replace hx273_2 := (HB.out.cell (World.block_lt_of_cell? w _ hx273_2)).trans hx273_2
      replace hx273_3 := (HB.out.cell (World.block_lt_of_cell? w _ hx273_3)).trans hx273_3
      replace p273 := eq_true p273
      replace q273 := eq_true q273
      go_upto_region 8 with (first | ((with_reducible refine gate_dst (N := 10) rfl ?_); refine box_event ?hg (N := 10) ?hd (cs := #[.int .i64 0, .int .i64 0, .int .i64 0, .int .i64 0]) (t := 61) ?hr ?_; (case hd => rfl); (case hg => rfl); (case hr => first | (go_simp; done) | (go_simp; rfl)); intro gb274 hg w13 hbox hb; have BK274 := Aside0.mk (hbox); have GW274 := Aside0.mk ((by rw [hg]; exact (below_size (by repeat (first | exact zh0 HB | refine below_set ?_ GE266.out))) : w.heap.size ≤ gb274)); have GE274 := Aside0.mk ((by rw [hg]; exact (below_size (by repeat (first | exact zh0 HB | refine below_set ?_ GE266.out))) : w.heap.size ≤ gb274)); have NB266_274 := znl BK266 hg; have NB274_266 := znr BK266 hg; replace HO_6 := Aside0.mk (Kd.R_below (Kd.R_elderB (zr0 HO_6) gb274 (Nat.le_of_eq hg.symm)) hb); replace HO_7 := Aside0.mk (Kd.R_below (Kd.R_elderB (zr0 HO_7) gb274 (Nat.le_of_eq hg.symm)) hb); replace BK266 := zb0 BK266 hb; replace HB := Aside0.mk (below_step (by repeat (first | exact zh0 HB | refine below_set ?_ GE266.out)) hb); clear hb hbox hg; have hnb14 := NB274_266.out; have hnc14 := NB266_274.out; have hcz15_0 := zc0 BK274 0 rfl; have hcz15_1 := zc0 BK274 1 rfl; have hcz15_2 := zc0 BK274 2 rfl; have hcz15_3 := zc0 BK274 3 rfl; have hfz15_0 := blk_frozen BK274.out 0; have hfz15_1 := blk_frozen BK274.out 1; have hfz15_2 := blk_frozen BK274.out 2; have hfz15_3 := blk_frozen BK274.out 3))
      (try simp only [Act.put, zp1, zp2, zp3])
      go_cut [48] (fun v48 wc => ∃ (kq : Nat) (x48_11 : Bool), v48 = .bool x48_11 ∧ Aside0 (impl_Rope_split.j1 kq a1 x6_1 x7_1 x8_1 (wrap64 (a1 - x8_1)) l0_0 (l0_0.length : Int) x17_1 x48_11 l0_0 ((rd_T61 l0_0 x17_1).f0) ((rd_T61 l0_0 x17_1).f1) ((rd_T61 l0_0 x17_1).f2) ((rd_T61 l0_0 x17_1).f3) = some (r1, r2)) ∧ Aside0 (kq ≤ k1) ∧ Aside0 (Kd.R k61 61 wc w.heap.size (fun k_ => some k_ ≠ (u7 : Value).ownBlock ∧ k_ ≠ gb274) u6 x6_1) ∧ Aside0 (Kd.R k61 61 wc w.heap.size (fun k_ => some k_ ≠ (u6 : Value).ownBlock ∧ k_ ≠ gb274) u7 x7_1) ∧ Aside0 (wc.heap[gb266]? = some (.cells #[(.slice (some ad273) l0_0.length c0_0)] 32 (0, 0))) ∧ Aside0 (wc.heap[gb274]? = some (.cells #[.int .i64 ((rd_T61 l0_0 x17_1).f0), .int .i64 ((rd_T61 l0_0 x17_1).f1), .int .i64 ((rd_T61 l0_0 x17_1).f2), .int .i64 ((rd_T61 l0_0 x17_1).f3)] 61 (0, 0))) ∧ Aside0 (Below w.heap.size w wc))
      case first =>
       have H := HC12.out
       clear HC12
       by_cases c16 : ((rd_T61 l0_0 x17_1).f2) = 0
       ·rw [if_pos c16] at H
        have c16b0 : (((rd_T61 l0_0 x17_1).f2) == 0) = true := beq_iff_eq.mpr c16
        have c16b1 : (((rd_T61 l0_0 x17_1).f2) != 0) = false := bne_eq_false_iff_eq.mpr c16
        clear c16
        (first | rw [c16b0] | (simp only [i64_w, i32_w]; rw [c16b0]) | skip)
        by_cases c17 : (wrap64 (a1 - x8_1)) > 0
        ·rw [if_pos c17] at H
         have c17b0 : decide (0 < (wrap64 (a1 - x8_1))) = true := decide_eq_true c17
         clear c17
         have H' := Aside0.mk H
         clear H
         have hnb18 := NB274_266.out
         have hnc18 := NB266_274.out
         have hcz19_0 := zc0 BK274 0 rfl
         have hcz19_1 := zc0 BK274 1 rfl
         have hcz19_2 := zc0 BK274 2 rfl
         have hcz19_3 := zc0 BK274 3 rfl
         have hfz19_0 := blk_frozen BK274.out 0
         have hfz19_1 := blk_frozen BK274.out 1
         have hfz19_2 := blk_frozen BK274.out 2
         have hfz19_3 := blk_frozen BK274.out 3
         go_wp2
         go_meet
         case rel => exact ⟨_, (true), (by first | rfl | (simp; done) | (simp [*]; done)), H', ⟨by have := HK1.out; first | omega | exact Nat.le_refl _⟩, ⟨by (with_reducible repeat (first | apply Kd.R_alloc | apply Kd.R_drewN | apply Kd.R_drew)); exact Kd.R_mono (Kd.R_far (p := ⟨gb274, 3, none⟩) (Kd.R_far (p := ⟨gb274, 2, none⟩) (Kd.R_far (p := ⟨gb274, 1, none⟩) (Kd.R_far (p := ⟨gb274, 0, none⟩) (Kd.R_mono HO_6.out (fun k_ hk => (⟨hk, hk.2⟩ : _ ∧ k_ ≠ gb274))) (fun _ hk => hk.2) (.int .i64 ((rd_T61 l0_0 x17_1).f0))) (fun _ hk => hk.2) (.int .i64 ((rd_T61 l0_0 x17_1).f1))) (fun _ hk => hk.2) (.int .i64 ((rd_T61 l0_0 x17_1).f2))) (fun _ hk => hk.2) (.int .i64 ((rd_T61 l0_0 x17_1).f3))) (fun _ hk => ⟨hk.1.1, hk.1.2⟩)⟩, ⟨by (with_reducible repeat (first | apply Kd.R_alloc | apply Kd.R_drewN | apply Kd.R_drew)); exact Kd.R_mono (Kd.R_far (p := ⟨gb274, 3, none⟩) (Kd.R_far (p := ⟨gb274, 2, none⟩) (Kd.R_far (p := ⟨gb274, 1, none⟩) (Kd.R_far (p := ⟨gb274, 0, none⟩) (Kd.R_mono HO_7.out (fun k_ hk => (⟨hk, hk.2⟩ : _ ∧ k_ ≠ gb274))) (fun _ hk => hk.2) (.int .i64 ((rd_T61 l0_0 x17_1).f0))) (fun _ hk => hk.2) (.int .i64 ((rd_T61 l0_0 x17_1).f1))) (fun _ hk => hk.2) (.int .i64 ((rd_T61 l0_0 x17_1).f2))) (fun _ hk => hk.2) (.int .i64 ((rd_T61 l0_0 x17_1).f3))) (fun _ hk => ⟨hk.1.1, hk.1.2⟩)⟩, ⟨by (with_reducible repeat (first | refine blk_drewN ?_ _ | refine blk_drew ?_ | refine blk_alloc ?_ _)); refine blk_far ?_ NB266_274.out _; refine blk_far ?_ NB266_274.out _; refine blk_far ?_ NB266_274.out _; refine blk_far ?_ NB266_274.out _; (with_reducible repeat (first | refine blk_drewN ?_ _ | refine blk_drew ?_ | refine blk_alloc ?_ _)); exact BK266.out⟩, ⟨by (with_reducible repeat (first | refine blk_drewN ?_ _ | refine blk_drew ?_ | refine blk_alloc ?_ _)); refine blk_put (cs := #[.int .i64 ((rd_T61 l0_0 x17_1).f0), .int .i64 ((rd_T61 l0_0 x17_1).f1), .int .i64 ((rd_T61 l0_0 x17_1).f2), .int .i64 0]) ?_ 3 _ rfl; refine blk_put (cs := #[.int .i64 ((rd_T61 l0_0 x17_1).f0), .int .i64 ((rd_T61 l0_0 x17_1).f1), .int .i64 0, .int .i64 0]) ?_ 2 _ rfl; refine blk_put (cs := #[.int .i64 ((rd_T61 l0_0 x17_1).f0), .int .i64 0, .int .i64 0, .int .i64 0]) ?_ 1 _ rfl; refine blk_put (cs := #[.int .i64 0, .int .i64 0, .int .i64 0, .int .i64 0]) ?_ 0 _ rfl; (with_reducible repeat (first | refine blk_drewN ?_ _ | refine blk_drew ?_ | refine blk_alloc ?_ _)); exact BK274.out⟩, ⟨by repeat (first | exact zh0 HB | refine below_set ?_ GE266.out | refine below_set ?_ GE274.out)⟩⟩
        ·rw [if_neg c17] at H
         have c17b0 : decide (0 < (wrap64 (a1 - x8_1))) = false := decide_eq_false c17
         clear c17
         replace H := Option.bind_eq_some_iff.mp H
         obtain ⟨t275, A200, H⟩ := H
         replace H : (impl_Rope_split.j1 k1 a1 x6_1 x7_1 x8_1 (wrap64 (a1 - x8_1)) l0_0 (l0_0.length : Int) x17_1 (a1 == t275) l0_0 ((rd_T61 l0_0 x17_1).f0) ((rd_T61 l0_0 x17_1).f1) ((rd_T61 l0_0 x17_1).f2) ((rd_T61 l0_0 x17_1).f3)) = some (r1, r2) := H
         have A20 := Aside0.mk A200
         clear A200
         have H' := Aside0.mk H
         clear H
         have hnb21 := NB274_266.out
         have hnc21 := NB266_274.out
         have hcz22_0 := zc0 BK274 0 rfl
         have hcz22_1 := zc0 BK274 1 rfl
         have hcz22_2 := zc0 BK274 2 rfl
         have hcz22_3 := zc0 BK274 3 rfl
         have hfz22_0 := blk_frozen BK274.out 0
         have hfz22_1 := blk_frozen BK274.out 1
         have hfz22_2 := blk_frozen BK274.out 2
         have hfz22_3 := blk_frozen BK274.out 3
         have hcz23_0 := zc0 BK266 0 rfl
         have hfz23_0 := blk_frozen BK266.out 0
         go_wp2_with (first | (go_at_call 101; (with_reducible refine (impl_Rope_length.calls k1 _ _ l0_0 t275 _ ?side1 ?side2 A20.out).mono ?_); (case side1 => exact Kd.C_below HR0_0.out (by repeat (first | exact zh0 HB | refine below_set ?_ GE266.out | refine below_set ?_ GE274.out))); (case side2 => exact HC0_0.out); rintro e w24 ⟨rfl, hb⟩; replace HO_6 := Aside0.mk (Kd.R_below (by (with_reducible repeat (first | apply Kd.R_alloc | apply Kd.R_drewN | apply Kd.R_drew)); exact (Kd.R_mono (Kd.R_far (p := ⟨gb274, 3, none⟩) (Kd.R_far (p := ⟨gb274, 2, none⟩) (Kd.R_far (p := ⟨gb274, 1, none⟩) (Kd.R_far (p := ⟨gb274, 0, none⟩) (Kd.R_mono HO_6.out (fun k_ hk => (⟨hk, hk.2⟩ : _ ∧ k_ ≠ gb274))) (fun _ hk => hk.2) (.int .i64 ((rd_T61 l0_0 x17_1).f0))) (fun _ hk => hk.2) (.int .i64 ((rd_T61 l0_0 x17_1).f1))) (fun _ hk => hk.2) (.int .i64 ((rd_T61 l0_0 x17_1).f2))) (fun _ hk => hk.2) (.int .i64 ((rd_T61 l0_0 x17_1).f3))) (fun _ h_ => h_.1))) hb); replace HO_7 := Aside0.mk (Kd.R_below (by (with_reducible repeat (first | apply Kd.R_alloc | apply Kd.R_drewN | apply Kd.R_drew)); exact (Kd.R_mono (Kd.R_far (p := ⟨gb274, 3, none⟩) (Kd.R_far (p := ⟨gb274, 2, none⟩) (Kd.R_far (p := ⟨gb274, 1, none⟩) (Kd.R_far (p := ⟨gb274, 0, none⟩) (Kd.R_mono HO_7.out (fun k_ hk => (⟨hk, hk.2⟩ : _ ∧ k_ ≠ gb274))) (fun _ hk => hk.2) (.int .i64 ((rd_T61 l0_0 x17_1).f0))) (fun _ hk => hk.2) (.int .i64 ((rd_T61 l0_0 x17_1).f1))) (fun _ hk => hk.2) (.int .i64 ((rd_T61 l0_0 x17_1).f2))) (fun _ hk => hk.2) (.int .i64 ((rd_T61 l0_0 x17_1).f3))) (fun _ h_ => h_.1))) hb); replace BK266 := Aside0.mk (blk_below (g := gb266) (o := .cells #[.slice (some ad273) l0_0.length c0_0] 32 (0, 0)) (by (with_reducible repeat (first | refine blk_drewN ?_ _ | refine blk_drew ?_ | refine blk_alloc ?_ _)); refine blk_far ?_ NB266_274.out _; refine blk_far ?_ NB266_274.out _; refine blk_far ?_ NB266_274.out _; refine blk_far ?_ NB266_274.out _; (with_reducible repeat (first | refine blk_drewN ?_ _ | refine blk_drew ?_ | refine blk_alloc ?_ _)); exact BK266.out) hb); replace BK274 := Aside0.mk (blk_below (g := gb274) (o := .cells #[.int .i64 ((rd_T61 l0_0 x17_1).f0), .int .i64 ((rd_T61 l0_0 x17_1).f1), .int .i64 ((rd_T61 l0_0 x17_1).f2), .int .i64 ((rd_T61 l0_0 x17_1).f3)] 61 (0, 0)) (by (with_reducible repeat (first | refine blk_drewN ?_ _ | refine blk_drew ?_ | refine blk_alloc ?_ _)); refine blk_put (cs := #[.int .i64 ((rd_T61 l0_0 x17_1).f0), .int .i64 ((rd_T61 l0_0 x17_1).f1), .int .i64 ((rd_T61 l0_0 x17_1).f2), .int .i64 0]) ?_ 3 _ rfl; refine blk_put (cs := #[.int .i64 ((rd_T61 l0_0 x17_1).f0), .int .i64 ((rd_T61 l0_0 x17_1).f1), .int .i64 0, .int .i64 0]) ?_ 2 _ rfl; refine blk_put (cs := #[.int .i64 ((rd_T61 l0_0 x17_1).f0), .int .i64 0, .int .i64 0, .int .i64 0]) ?_ 1 _ rfl; refine blk_put (cs := #[.int .i64 0, .int .i64 0, .int .i64 0, .int .i64 0]) ?_ 0 _ rfl; (with_reducible repeat (first | refine blk_drewN ?_ _ | refine blk_drew ?_ | refine blk_alloc ?_ _)); exact BK274.out) hb); replace HB := Aside0.mk (below_step (by repeat (first | exact zh0 HB | refine below_set ?_ GE266.out | refine below_set ?_ GE274.out)) hb); (try clear hb); (try clear hb2); (try clear hk); (try clear hi)))
         go_meet
         case rel => exact ⟨_, ((a1 == t275)), (by first | rfl | (simp; done) | (simp [*]; done)), H', ⟨by have := HK1.out; first | omega | exact Nat.le_refl _⟩, ⟨zr0 HO_6⟩, ⟨zr0 HO_7⟩, ⟨zk0 BK266⟩, ⟨zk0 BK274⟩, ⟨by repeat (first | exact zh0 HB | refine below_set ?_ GE266.out | refine below_set ?_ GE274.out)⟩⟩
       ·rw [if_neg c16] at H
        have c16b0 : (((rd_T61 l0_0 x17_1).f2) == 0) = false := beq_eq_false_iff_ne.mpr c16
        have c16b1 : (((rd_T61 l0_0 x17_1).f2) != 0) = true := bne_iff_ne.mpr c16
        (first | rw [c16b0] | (simp only [i64_w, i32_w]; rw [c16b0]) | skip)
        have H' := Aside0.mk H
        clear H
        have hnb25 := NB274_266.out
        have hnc25 := NB266_274.out
        have hcz26_0 := zc0 BK274 0 rfl
        have hcz26_1 := zc0 BK274 1 rfl
        have hcz26_2 := zc0 BK274 2 rfl
        have hcz26_3 := zc0 BK274 3 rfl
        have hfz26_0 := blk_frozen BK274.out 0
        have hfz26_1 := blk_frozen BK274.out 1
        have hfz26_2 := blk_frozen BK274.out 2
        have hfz26_3 := blk_frozen BK274.out 3
        go_wp2
        go_meet
        case rel => exact ⟨_, (false), (by first | rfl | (simp; done) | (simp [*]; done)), H', ⟨by have := HK1.out; first | omega | exact Nat.le_refl _⟩, ⟨by (with_reducible repeat (first | apply Kd.R_alloc | apply Kd.R_drewN | apply Kd.R_drew)); exact Kd.R_mono (Kd.R_far (p := ⟨gb274, 3, none⟩) (Kd.R_far (p := ⟨gb274, 2, none⟩) (Kd.R_far (p := ⟨gb274, 1, none⟩) (Kd.R_far (p := ⟨gb274, 0, none⟩) (Kd.R_mono HO_6.out (fun k_ hk => (⟨hk, hk.2⟩ : _ ∧ k_ ≠ gb274))) (fun _ hk => hk.2) (.int .i64 ((rd_T61 l0_0 x17_1).f0))) (fun _ hk => hk.2) (.int .i64 ((rd_T61 l0_0 x17_1).f1))) (fun _ hk => hk.2) (.int .i64 ((rd_T61 l0_0 x17_1).f2))) (fun _ hk => hk.2) (.int .i64 ((rd_T61 l0_0 x17_1).f3))) (fun _ hk => ⟨hk.1.1, hk.1.2⟩)⟩, ⟨by (with_reducible repeat (first | apply Kd.R_alloc | apply Kd.R_drewN | apply Kd.R_drew)); exact Kd.R_mono (Kd.R_far (p := ⟨gb274, 3, none⟩) (Kd.R_far (p := ⟨gb274, 2, none⟩) (Kd.R_far (p := ⟨gb274, 1, none⟩) (Kd.R_far (p := ⟨gb274, 0, none⟩) (Kd.R_mono HO_7.out (fun k_ hk => (⟨hk, hk.2⟩ : _ ∧ k_ ≠ gb274))) (fun _ hk => hk.2) (.int .i64 ((rd_T61 l0_0 x17_1).f0))) (fun _ hk => hk.2) (.int .i64 ((rd_T61 l0_0 x17_1).f1))) (fun _ hk => hk.2) (.int .i64 ((rd_T61 l0_0 x17_1).f2))) (fun _ hk => hk.2) (.int .i64 ((rd_T61 l0_0 x17_1).f3))) (fun _ hk => ⟨hk.1.1, hk.1.2⟩)⟩, ⟨by (with_reducible repeat (first | refine blk_drewN ?_ _ | refine blk_drew ?_ | refine blk_alloc ?_ _)); refine blk_far ?_ NB266_274.out _; refine blk_far ?_ NB266_274.out _; refine blk_far ?_ NB266_274.out _; refine blk_far ?_ NB266_274.out _; (with_reducible repeat (first | refine blk_drewN ?_ _ | refine blk_drew ?_ | refine blk_alloc ?_ _)); exact BK266.out⟩, ⟨by (with_reducible repeat (first | refine blk_drewN ?_ _ | refine blk_drew ?_ | refine blk_alloc ?_ _)); refine blk_put (cs := #[.int .i64 ((rd_T61 l0_0 x17_1).f0), .int .i64 ((rd_T61 l0_0 x17_1).f1), .int .i64 ((rd_T61 l0_0 x17_1).f2), .int .i64 0]) ?_ 3 _ rfl; refine blk_put (cs := #[.int .i64 ((rd_T61 l0_0 x17_1).f0), .int .i64 ((rd_T61 l0_0 x17_1).f1), .int .i64 0, .int .i64 0]) ?_ 2 _ rfl; refine blk_put (cs := #[.int .i64 ((rd_T61 l0_0 x17_1).f0), .int .i64 0, .int .i64 0, .int .i64 0]) ?_ 1 _ rfl; refine blk_put (cs := #[.int .i64 0, .int .i64 0, .int .i64 0, .int .i64 0]) ?_ 0 _ rfl; (with_reducible repeat (first | refine blk_drewN ?_ _ | refine blk_drew ?_ | refine blk_alloc ?_ _)); exact BK274.out⟩, ⟨by repeat (first | exact zh0 HB | refine below_set ?_ GE266.out | refine below_set ?_ GE274.out)⟩⟩
      case rest =>
       clear HC12
       try clear c1
       try clear c2
       try clear p2
       try clear q2
       try clear hx2
       try clear p6
       try clear c9
       try clear c9b0
       try clear c10
       try clear c10b0
       try clear c11
       try clear c11b0
       try clear c14
       try clear c16
       try clear c16b0
       try clear c16b1
       try clear c17
       try clear c17b0
       try clear c18
       try clear c21
       try clear c25
       try clear hcz15_0
       try clear hcz15_1
       try clear hcz15_2
       try clear hcz15_3
       try clear hcz19_0
       try clear hcz19_1
       try clear hcz19_2
       try clear hcz19_3
       try clear hcz22_0
       try clear hcz22_1
       try clear hcz22_2
       try clear hcz22_3
       try clear hcz23_0
       try clear hcz26_0
       try clear hcz26_1
       try clear hcz26_2
       try clear hcz26_3
       try clear hcz8_0
       try clear hfz15_0
       try clear hfz15_1
       try clear hfz15_2
       try clear hfz15_3
       try clear hfz19_0
       try clear hfz19_1
       try clear hfz19_2
       try clear hfz19_3
       try clear hfz22_0
       try clear hfz22_1
       try clear hfz22_2
       try clear hfz22_3
       try clear hfz23_0
       try clear hfz26_0
       try clear hfz26_1
       try clear hfz26_2
       try clear hfz26_3
       try clear hfz8_0
       try clear hx273_0
       try clear hx273_1
       try clear hx273_2
       try clear hx273_3
       try clear p2
       try clear p273
       try clear q273
       obtain ⟨kq, x48_11, rfl, HA, HJ11, HO_6, HO_7, BK266, BK274, HB⟩ := hcut
       cases kq with
       | zero => exact absurd HA.out (by simp [impl_Rope_split.j1])
       | succ kj11 =>
        have H := HA.out
        clear HA
        simp only [impl_Rope_split.j1] at H
        have HC27 := Aside0.mk H
        clear H
        go_upto_if 48 with (fail)
        go_cut [48] (fun v48 wc => ∃ (kq : Nat) (x48_26 : Bool), v48 = .bool x48_26 ∧ Aside0 (impl_Rope_split.j2 kq a1 x6_1 x7_1 x8_1 (wrap64 (a1 - x8_1)) l0_0 (l0_0.length : Int) x17_1 x48_26 l0_0 ((rd_T61 l0_0 x17_1).f0) ((rd_T61 l0_0 x17_1).f1) ((rd_T61 l0_0 x17_1).f2) ((rd_T61 l0_0 x17_1).f3) = some (r1, r2)) ∧ Aside0 (kq ≤ kj11) ∧ Aside0 (Kd.R k61 61 wc w.heap.size (fun k_ => some k_ ≠ (u7 : Value).ownBlock ∧ k_ ≠ gb274) u6 x6_1) ∧ Aside0 (Kd.R k61 61 wc w.heap.size (fun k_ => some k_ ≠ (u6 : Value).ownBlock ∧ k_ ≠ gb274) u7 x7_1) ∧ Aside0 (wc.heap[gb266]? = some (.cells #[(.slice (some ad273) l0_0.length c0_0)] 32 (0, 0))) ∧ Aside0 (wc.heap[gb274]? = some (.cells #[.int .i64 ((rd_T61 l0_0 x17_1).f0), .int .i64 ((rd_T61 l0_0 x17_1).f1), .int .i64 ((rd_T61 l0_0 x17_1).f2), .int .i64 ((rd_T61 l0_0 x17_1).f3)] 61 (0, 0))) ∧ Aside0 (Below w.heap.size w wc))
        case first =>
         have H := HC27.out
         clear HC27
         by_cases c28 : x48_11 = true
         ·subst c28
          have H1 : (impl_Rope_split.j2 kj11 a1 x6_1 x7_1 x8_1 (wrap64 (a1 - x8_1)) l0_0 (l0_0.length : Int) x17_1 true l0_0 ((rd_T61 l0_0 x17_1).f0) ((rd_T61 l0_0 x17_1).f1) ((rd_T61 l0_0 x17_1).f2) ((rd_T61 l0_0 x17_1).f3)) = some (r1, r2) := by rw [if_pos rfl] at H; exact H
          clear H
          have H := H1
          clear H1
          have H' := Aside0.mk H
          clear H
          go_wp2
          go_meet
          case rel => exact ⟨_, (true), (by first | rfl | (simp; done) | (simp [*]; done)), H', ⟨by have := HK1.out; have := HJ11.out; first | omega | exact Nat.le_refl _⟩, ⟨zr0 HO_6⟩, ⟨zr0 HO_7⟩, ⟨zk0 BK266⟩, ⟨zk0 BK274⟩, ⟨by repeat (first | exact zh0 HB | refine below_set ?_ GE266.out | refine below_set ?_ GE274.out)⟩⟩
         ·replace c28 := Bool.eq_false_iff.mpr c28
          subst c28
          have H1 : (if ((rd_T61 l0_0 x17_1).f2) > 0 then (impl_Rope_split.j2 kj11 a1 x6_1 x7_1 x8_1 (wrap64 (a1 - x8_1)) l0_0 (l0_0.length : Int) x17_1 (decide ((wrap64 (a1 - x8_1)) ≥ ((rd_T61 l0_0 x17_1).f2))) l0_0 ((rd_T61 l0_0 x17_1).f0) ((rd_T61 l0_0 x17_1).f1) ((rd_T61 l0_0 x17_1).f2) ((rd_T61 l0_0 x17_1).f3)) else (impl_Rope_split.j2 kj11 a1 x6_1 x7_1 x8_1 (wrap64 (a1 - x8_1)) l0_0 (l0_0.length : Int) x17_1 false l0_0 ((rd_T61 l0_0 x17_1).f0) ((rd_T61 l0_0 x17_1).f1) ((rd_T61 l0_0 x17_1).f2) ((rd_T61 l0_0 x17_1).f3))) = some (r1, r2) := by rw [if_neg (show ¬ (false = true) by decide)] at H; exact H
          clear H
          have H := H1
          clear H1
          by_cases c29 : ((rd_T61 l0_0 x17_1).f2) > 0
          ·rw [if_pos c29] at H
           have c29b0 : decide (0 < ((rd_T61 l0_0 x17_1).f2)) = true := decide_eq_true c29
           clear c29
           (first | rw [c29b0] | (simp only [i64_w, i32_w]; rw [c29b0]) | skip)
           have H' := Aside0.mk H
           clear H
           have hnb30 := NB274_266.out
           have hnc30 := NB266_274.out
           have hcz31_0 := zc0 BK274 0 rfl
           have hcz31_1 := zc0 BK274 1 rfl
           have hcz31_2 := zc0 BK274 2 rfl
           have hcz31_3 := zc0 BK274 3 rfl
           have hfz31_0 := blk_frozen BK274.out 0
           have hfz31_1 := blk_frozen BK274.out 1
           have hfz31_2 := blk_frozen BK274.out 2
           have hfz31_3 := blk_frozen BK274.out 3
           go_wp2
           go_meet
           case rel => exact ⟨_, (decide ((wrap64 (a1 - x8_1)) ≥ ((rd_T61 l0_0 x17_1).f2))), (by first | rfl | (simp; done) | (simp [*]; done)), H', ⟨by have := HK1.out; have := HJ11.out; first | omega | exact Nat.le_refl _⟩, ⟨zr0 HO_6⟩, ⟨zr0 HO_7⟩, ⟨zk0 BK266⟩, ⟨zk0 BK274⟩, ⟨by repeat (first | exact zh0 HB | refine below_set ?_ GE266.out | refine below_set ?_ GE274.out)⟩⟩
          ·rw [if_neg c29] at H
           have c29b0 : decide (0 < ((rd_T61 l0_0 x17_1).f2)) = false := decide_eq_false c29
           clear c29
           (first | rw [c29b0] | (simp only [i64_w, i32_w]; rw [c29b0]) | skip)
           have H' := Aside0.mk H
           clear H
           have hnb32 := NB274_266.out
           have hnc32 := NB266_274.out
           have hcz33_0 := zc0 BK274 0 rfl
           have hcz33_1 := zc0 BK274 1 rfl
           have hcz33_2 := zc0 BK274 2 rfl
           have hcz33_3 := zc0 BK274 3 rfl
           have hfz33_0 := blk_frozen BK274.out 0
           have hfz33_1 := blk_frozen BK274.out 1
           have hfz33_2 := blk_frozen BK274.out 2
           have hfz33_3 := blk_frozen BK274.out 3
           go_wp2
           go_meet
           case rel => exact ⟨_, (false), (by first | rfl | (simp; done) | (simp [*]; done)), H', ⟨by have := HK1.out; have := HJ11.out; first | omega | exact Nat.le_refl _⟩, ⟨zr0 HO_6⟩, ⟨zr0 HO_7⟩, ⟨zk0 BK266⟩, ⟨zk0 BK274⟩, ⟨by repeat (first | exact zh0 HB | refine below_set ?_ GE266.out | refine below_set ?_ GE274.out)⟩⟩
        case rest =>
         clear HC27
         try clear c1
         try clear c2
         try clear p2
         try clear q2
         try clear hx2
         try clear c3
         try clear p6
         try clear c9
         try clear c9b0
         try clear c10
         try clear c10b0
         try clear c11
         try clear c11b0
         try clear c14
         try clear c16
         try clear c16b0
         try clear c16b1
         try clear c17
         try clear c17b0
         try clear c18
         try clear c21
         try clear c25
         try clear p27
         try clear q27
         try clear hx27
         try clear c28
         try clear c29
         try clear c29b0
         try clear c30
         try clear c32
         try clear hcz15_0
         try clear hcz15_1
         try clear hcz15_2
         try clear hcz15_3
         try clear hcz19_0
         try clear hcz19_1
         try clear hcz19_2
         try clear hcz19_3
         try clear hcz22_0
         try clear hcz22_1
         try clear hcz22_2
         try clear hcz22_3
         try clear hcz23_0
         try clear hcz26_0
         try clear hcz26_1
         try clear hcz26_2
         try clear hcz26_3
         try clear hcz31_0
         try clear hcz31_1
         try clear hcz31_2
         try clear hcz31_3
         try clear hcz33_0
         try clear hcz33_1
         try clear hcz33_2
         try clear hcz33_3
         try clear hcz8_0
         try clear hfz15_0
         try clear hfz15_1
         try clear hfz15_2
         try clear hfz15_3
         try clear hfz19_0
         try clear hfz19_1
         try clear hfz19_2
         try clear hfz19_3
         try clear hfz22_0
         try clear hfz22_1
         try clear hfz22_2
         try clear hfz22_3
         try clear hfz23_0
         try clear hfz26_0
         try clear hfz26_1
         try clear hfz26_2
         try clear hfz26_3
         try clear hfz31_0
         try clear hfz31_1
         try clear hfz31_2
         try clear hfz31_3
         try clear hfz33_0
         try clear hfz33_1
         try clear hfz33_2
         try clear hfz33_3
         try clear hfz8_0
         try clear hx273_0
         try clear hx273_1
         try clear hx273_2
         try clear hx273_3
         try clear p2
         try clear p273
         try clear p6
         try clear q2
         try clear q273
         obtain ⟨kq, x48_26, rfl, HA, HJ26, HO_6, HO_7, BK266, BK274, HB⟩ := hcut
         cases kq with
         | zero => exact absurd HA.out (by simp [impl_Rope_split.j2])
         | succ kj26 =>
          have H := HA.out
          clear HA
          simp only [impl_Rope_split.j2] at H
          by_cases c34 : x48_26 = true
          ·subst c34
           have H1 : (if x6_1.length < 4398046511104 then (impl_Rope_split.l0 kj26 a1 (x6_1 ++ [(⟨((rd_T61 l0_0 x17_1).f0), ((rd_T61 l0_0 x17_1).f1), ((rd_T61 l0_0 x17_1).f2), ((rd_T61 l0_0 x17_1).f3)⟩ : S61)]) x7_1 (wrap64 (x8_1 + ((rd_T61 l0_0 x17_1).f2))) l0_0 (l0_0.length : Int) (wrap64 (x17_1 + 1)) l0_0) else (none)) = some (r1, r2) := by rw [if_pos rfl] at H; exact H
           clear H
           have H := H1
           clear H1
           by_cases c35 : x6_1.length < 4398046511104
           ·rw [if_pos c35] at H
            have LMc35 := Aside0.mk c35
            clear c35
            obtain ⟨y276, hy276⟩ : ∃ y_ : List (S61), y_ = (x6_1 ++ [(⟨((rd_T61 l0_0 x17_1).f0), ((rd_T61 l0_0 x17_1).f1), ((rd_T61 l0_0 x17_1).f2), ((rd_T61 l0_0 x17_1).f3)⟩ : S61)]) := ⟨_, rfl⟩
            replace H : (impl_Rope_split.l0 kj26 a1 y276 x7_1 (wrap64 (x8_1 + ((rd_T61 l0_0 x17_1).f2))) l0_0 (l0_0.length : Int) (wrap64 (x17_1 + 1)) l0_0) = some (r1, r2) := by first | (rw [hy276]; with_reducible exact H) | (have H2_ := (Option.bind_some _ _).symm.trans H; rw [hy276]; with_reducible exact H2_) | (have H2_ := (Option.bind_some _ _).symm.trans H; with_reducible exact H2_) | with_reducible exact H | (rw [hy276]; exact H) | exact H
            have Ny276 := Aside0.mk hy276
            clear hy276
            have H' := Aside0.mk H
            clear H
            have hnb36 := NB274_266.out
            have hnc36 := NB266_274.out
            have hcz37_0 := zc0 BK274 0 rfl
            have hcz37_1 := zc0 BK274 1 rfl
            have hcz37_2 := zc0 BK274 2 rfl
            have hcz37_3 := zc0 BK274 3 rfl
            have hfz37_0 := blk_frozen BK274.out 0
            have hfz37_1 := blk_frozen BK274.out 1
            have hfz37_2 := blk_frozen BK274.out 2
            have hfz37_3 := blk_frozen BK274.out 3
            go_wp2_with (first | ((with_reducible refine gate_builtin (b := .append) (xs := #[.tmp 71, .tmp 73]) rfl ?_); at_builtin; refine Kd.R_append k61 (w0 := w) w.heap.size rfl (.tmp 71) (.tmp 73) 30 61 (.agg #[(.int .i64 0), (.int .i64 0), (.int .i64 0), (.int .i64 0)]) 32 rfl Try.underlying30 info61 rfl (by decide) (by omega) u6 x6_1 (⟨((rd_T61 l0_0 x17_1).f0), ((rd_T61 l0_0 x17_1).f1), ((rd_T61 l0_0 x17_1).f2), ((rd_T61 l0_0 x17_1).f3)⟩ : S61) [.int .i64 ((rd_T61 l0_0 x17_1).f0), .int .i64 ((rd_T61 l0_0 x17_1).f1), .int .i64 ((rd_T61 l0_0 x17_1).f2), .int .i64 ((rd_T61 l0_0 x17_1).f3)] (fun k_ => some k_ ≠ (u7 : Value).ownBlock ∧ k_ ≠ gb274) (fun _ => False) rfl rfl ?aP (fun _ hk => hk.elim) ?aF ?aO ?aB ?aS ?aL ?_; (case aP => exact k61_mkM _ _ _ (⟨((rd_T61 l0_0 x17_1).f0), ((rd_T61 l0_0 x17_1).f1), ((rd_T61 l0_0 x17_1).f2), ((rd_T61 l0_0 x17_1).f3)⟩ : S61)); (case aB => exact (by repeat (first | exact zh0 HB | refine below_set ?_ GE266.out | refine below_set ?_ GE274.out))); (case aF => exact (fun k_ hk => ⟨Kd.fresh' (Kd.R_lt (zr0 HO_7)) k_ hk, Kd.freshB (g := gb274) (o := .cells #[.int .i64 ((rd_T61 l0_0 x17_1).f0), .int .i64 ((rd_T61 l0_0 x17_1).f1), .int .i64 ((rd_T61 l0_0 x17_1).f2), .int .i64 ((rd_T61 l0_0 x17_1).f3)] 61 (0, 0)) (zk0 BK274) k_ hk⟩)); (case aO => exact (zr0 HO_6)); (case aS => exact (below_size (by repeat (first | exact zh0 HB | refine below_set ?_ GE266.out | refine below_set ?_ GE274.out)))); (case aL => have := LMc35.out; omega); intro v277 w38 ho hb hg hat; rw [← Ny276.out] at ho; have n0_ := Aside0.mk (Kd.R_after (ok := (fun k_ => k_ ≠ gb274)) (by (with_reducible repeat (first | apply Kd.R_alloc | apply Kd.R_drewN | apply Kd.R_drew)); exact Kd.R_mono HO_7.out (fun _ hk => ⟨hk.2, hk.1⟩)) hg hat); have n1_ := Aside0.mk (blk_grown (g := gb266) (o := .cells #[.slice (some ad273) l0_0.length c0_0] 32 (0, 0)) (zk0 BK266) hg (Kd.R_ne HO_6.out BK266.out (by decide))); have n2_ := Aside0.mk (blk_grown (g := gb274) (o := .cells #[.int .i64 ((rd_T61 l0_0 x17_1).f0), .int .i64 ((rd_T61 l0_0 x17_1).f1), .int .i64 ((rd_T61 l0_0 x17_1).f2), .int .i64 ((rd_T61 l0_0 x17_1).f3)] 61 (0, 0)) (zk0 BK274) hg (Kd.R_away HO_6.out (fun _ hk => hk.2))); have n3_ := Aside0.mk (hb); have n4_ := Aside0.mk (ho); clear HO_7; clear BK266; clear BK274; clear HB; clear HO_6; have HO_7 := n0_; have BK266 := n1_; have BK274 := n2_; have HB := n3_; have HO278 := n4_; clear n0_ n1_ n2_ n3_ n4_; clear ho hb hg hat; have hcz39_0 := zc0 BK274 0 rfl; have hcz39_1 := zc0 BK274 1 rfl; have hcz39_2 := zc0 BK274 2 rfl; have hcz39_3 := zc0 BK274 3 rfl; have hfz39_0 := blk_frozen BK274.out 0; have hfz39_1 := blk_frozen BK274.out 1; have hfz39_2 := blk_frozen BK274.out 2; have hfz39_3 := blk_frozen BK274.out 3))
            go_roundg kj26
            case measure => have := HK1.out; have := HJ11.out; have := HJ26.out; omega
            case rel => exact ⟨(y276), (x7_1), (wrap64 (x8_1 + ((rd_T61 l0_0 x17_1).f2))), (wrap64 (x17_1 + 1)), (by first | rfl | (simp; done) | (simp [*]; done)), (by first | rfl | (simp; done) | (simp [*]; done)), H', ⟨by have := HK1.out; have := HJ11.out; have := HJ26.out; omega⟩, ⟨by (with_reducible repeat (first | apply Kd.R_alloc | apply Kd.R_drewN | apply Kd.R_drew)); exact Kd.R_mono HO278.out (fun _ hk => hk.1)⟩, ⟨by (with_reducible repeat (first | apply Kd.R_alloc | apply Kd.R_drewN | apply Kd.R_drew)); exact Kd.R_mono HO_7.out (fun _ hk => hk.2)⟩, ⟨zk0 BK266⟩, ⟨by repeat (first | exact zh0 HB | refine below_set ?_ GE266.out | refine below_set ?_ GE274.out)⟩⟩
           ·rw [if_neg c35] at H
            exact absurd H (by simp)
          ·replace c34 := Bool.eq_false_iff.mpr c34
           subst c34
           have H1 : (if (wrap64 (a1 - x8_1)) ≤ 0 then (if x7_1.length < 4398046511104 then (impl_Rope_split.l0 kj26 a1 x6_1 (x7_1 ++ [(⟨((rd_T61 l0_0 x17_1).f0), ((rd_T61 l0_0 x17_1).f1), ((rd_T61 l0_0 x17_1).f2), ((rd_T61 l0_0 x17_1).f3)⟩ : S61)]) (wrap64 (x8_1 + ((rd_T61 l0_0 x17_1).f2))) l0_0 (l0_0.length : Int) (wrap64 (x17_1 + 1)) l0_0) else (none)) else ((impl_Window_part.f ((rd_T61 l0_0 x17_1).f0) ((rd_T61 l0_0 x17_1).f1) ((rd_T61 l0_0 x17_1).f2) ((rd_T61 l0_0 x17_1).f3) 0 (wrap64 (a1 - x8_1))).bind fun bt282 => (if x6_1.length < 4398046511104 then (if x7_1.length < 4398046511104 then (impl_Rope_split.l0 kj26 a1 (x6_1 ++ [(⟨bt282.1, bt282.2.1, bt282.2.2.1, bt282.2.2.2⟩ : S61)]) (x7_1 ++ [(⟨((rd_T61 l0_0 x17_1).f0), wrap64 (((rd_T61 l0_0 x17_1).f1) + (wrap64 (a1 - x8_1))), wrap64 (((rd_T61 l0_0 x17_1).f2) - (wrap64 (a1 - x8_1))), wrap64 (((rd_T61 l0_0 x17_1).f3) - (wrap64 (a1 - x8_1)))⟩ : S61)]) (wrap64 (x8_1 + ((rd_T61 l0_0 x17_1).f2))) l0_0 (l0_0.length : Int) (wrap64 (x17_1 + 1)) l0_0) else (none)) else (none)))) = some (r1, r2) := by rw [if_neg (show ¬ (false = true) by decide)] at H; exact H
           clear H
           have H := H1
           clear H1
           by_cases c40 : (wrap64 (a1 - x8_1)) ≤ 0
           ·rw [if_pos c40] at H
            have c40b0 : decide ((wrap64 (a1 - x8_1)) ≤ 0) = true := decide_eq_true c40
            clear c40
            by_cases c41 : x7_1.length < 4398046511104
            ·rw [if_pos c41] at H
             have LMc41 := Aside0.mk c41
             clear c41
             obtain ⟨y279, hy279⟩ : ∃ y_ : List (S61), y_ = (x7_1 ++ [(⟨((rd_T61 l0_0 x17_1).f0), ((rd_T61 l0_0 x17_1).f1), ((rd_T61 l0_0 x17_1).f2), ((rd_T61 l0_0 x17_1).f3)⟩ : S61)]) := ⟨_, rfl⟩
             replace H : (impl_Rope_split.l0 kj26 a1 x6_1 y279 (wrap64 (x8_1 + ((rd_T61 l0_0 x17_1).f2))) l0_0 (l0_0.length : Int) (wrap64 (x17_1 + 1)) l0_0) = some (r1, r2) := by first | (rw [hy279]; with_reducible exact H) | (have H2_ := (Option.bind_some _ _).symm.trans H; rw [hy279]; with_reducible exact H2_) | (have H2_ := (Option.bind_some _ _).symm.trans H; with_reducible exact H2_) | with_reducible exact H | (rw [hy279]; exact H) | exact H
             have Ny279 := Aside0.mk hy279
             clear hy279
             have H' := Aside0.mk H
             clear H
             have hnb42 := NB274_266.out
             have hnc42 := NB266_274.out
             have hcz43_0 := zc0 BK274 0 rfl
             have hcz43_1 := zc0 BK274 1 rfl
             have hcz43_2 := zc0 BK274 2 rfl
             have hcz43_3 := zc0 BK274 3 rfl
             have hfz43_0 := blk_frozen BK274.out 0
             have hfz43_1 := blk_frozen BK274.out 1
             have hfz43_2 := blk_frozen BK274.out 2
             have hfz43_3 := blk_frozen BK274.out 3
             go_wp2_with (first | ((with_reducible refine gate_builtin (b := .append) (xs := #[.tmp 78, .tmp 80]) rfl ?_); at_builtin; refine Kd.R_append k61 (w0 := w) w.heap.size rfl (.tmp 78) (.tmp 80) 30 61 (.agg #[(.int .i64 0), (.int .i64 0), (.int .i64 0), (.int .i64 0)]) 32 rfl Try.underlying30 info61 rfl (by decide) (by omega) u7 x7_1 (⟨((rd_T61 l0_0 x17_1).f0), ((rd_T61 l0_0 x17_1).f1), ((rd_T61 l0_0 x17_1).f2), ((rd_T61 l0_0 x17_1).f3)⟩ : S61) [.int .i64 ((rd_T61 l0_0 x17_1).f0), .int .i64 ((rd_T61 l0_0 x17_1).f1), .int .i64 ((rd_T61 l0_0 x17_1).f2), .int .i64 ((rd_T61 l0_0 x17_1).f3)] (fun k_ => some k_ ≠ (u6 : Value).ownBlock ∧ k_ ≠ gb274) (fun _ => False) rfl rfl ?aP (fun _ hk => hk.elim) ?aF ?aO ?aB ?aS ?aL ?_; (case aP => exact k61_mkM _ _ _ (⟨((rd_T61 l0_0 x17_1).f0), ((rd_T61 l0_0 x17_1).f1), ((rd_T61 l0_0 x17_1).f2), ((rd_T61 l0_0 x17_1).f3)⟩ : S61)); (case aB => exact (by repeat (first | exact zh0 HB | refine below_set ?_ GE266.out | refine below_set ?_ GE274.out))); (case aF => exact (fun k_ hk => ⟨Kd.fresh' (Kd.R_lt (zr0 HO_6)) k_ hk, Kd.freshB (g := gb274) (o := .cells #[.int .i64 ((rd_T61 l0_0 x17_1).f0), .int .i64 ((rd_T61 l0_0 x17_1).f1), .int .i64 ((rd_T61 l0_0 x17_1).f2), .int .i64 ((rd_T61 l0_0 x17_1).f3)] 61 (0, 0)) (zk0 BK274) k_ hk⟩)); (case aO => exact (zr0 HO_7)); (case aS => exact (below_size (by repeat (first | exact zh0 HB | refine below_set ?_ GE266.out | refine below_set ?_ GE274.out)))); (case aL => have := LMc41.out; omega); intro v280 w44 ho hb hg hat; rw [← Ny279.out] at ho; have n0_ := Aside0.mk (Kd.R_after (ok := (fun k_ => k_ ≠ gb274)) (by (with_reducible repeat (first | apply Kd.R_alloc | apply Kd.R_drewN | apply Kd.R_drew)); exact Kd.R_mono HO_6.out (fun _ hk => ⟨hk.2, hk.1⟩)) hg hat); have n1_ := Aside0.mk (blk_grown (g := gb266) (o := .cells #[.slice (some ad273) l0_0.length c0_0] 32 (0, 0)) (zk0 BK266) hg (Kd.R_ne HO_7.out BK266.out (by decide))); have n2_ := Aside0.mk (blk_grown (g := gb274) (o := .cells #[.int .i64 ((rd_T61 l0_0 x17_1).f0), .int .i64 ((rd_T61 l0_0 x17_1).f1), .int .i64 ((rd_T61 l0_0 x17_1).f2), .int .i64 ((rd_T61 l0_0 x17_1).f3)] 61 (0, 0)) (zk0 BK274) hg (Kd.R_away HO_7.out (fun _ hk => hk.2))); have n3_ := Aside0.mk (hb); have n4_ := Aside0.mk (ho); clear HO_6; clear BK266; clear BK274; clear HB; clear HO_7; have HO_6 := n0_; have BK266 := n1_; have BK274 := n2_; have HB := n3_; have HO281 := n4_; clear n0_ n1_ n2_ n3_ n4_; clear ho hb hg hat; have hcz45_0 := zc0 BK274 0 rfl; have hcz45_1 := zc0 BK274 1 rfl; have hcz45_2 := zc0 BK274 2 rfl; have hcz45_3 := zc0 BK274 3 rfl; have hfz45_0 := blk_frozen BK274.out 0; have hfz45_1 := blk_frozen BK274.out 1; have hfz45_2 := blk_frozen BK274.out 2; have hfz45_3 := blk_frozen BK274.out 3))
             go_roundg kj26
             case measure => have := HK1.out; have := HJ11.out; have := HJ26.out; omega
             case rel => exact ⟨(x6_1), (y279), (wrap64 (x8_1 + ((rd_T61 l0_0 x17_1).f2))), (wrap64 (x17_1 + 1)), (by first | rfl | (simp; done) | (simp [*]; done)), (by first | rfl | (simp; done) | (simp [*]; done)), H', ⟨by have := HK1.out; have := HJ11.out; have := HJ26.out; omega⟩, ⟨by (with_reducible repeat (first | apply Kd.R_alloc | apply Kd.R_drewN | apply Kd.R_drew)); exact Kd.R_mono HO_6.out (fun _ hk => hk.2)⟩, ⟨by (with_reducible repeat (first | apply Kd.R_alloc | apply Kd.R_drewN | apply Kd.R_drew)); exact Kd.R_mono HO281.out (fun _ hk => hk.1)⟩, ⟨zk0 BK266⟩, ⟨by repeat (first | exact zh0 HB | refine below_set ?_ GE266.out | refine below_set ?_ GE274.out)⟩⟩
            ·rw [if_neg c41] at H
             exact absurd H (by simp)
           ·rw [if_neg c40] at H
            have c40b0 : decide ((wrap64 (a1 - x8_1)) ≤ 0) = false := decide_eq_false c40
            clear c40
            replace H := Option.bind_eq_some_iff.mp H
            obtain ⟨⟨t282, t283, t284, t285⟩, A460, H⟩ := H
            replace H : (if x6_1.length < 4398046511104 then (if x7_1.length < 4398046511104 then (impl_Rope_split.l0 kj26 a1 (x6_1 ++ [(⟨t282, t283, t284, t285⟩ : S61)]) (x7_1 ++ [(⟨((rd_T61 l0_0 x17_1).f0), wrap64 (((rd_T61 l0_0 x17_1).f1) + (wrap64 (a1 - x8_1))), wrap64 (((rd_T61 l0_0 x17_1).f2) - (wrap64 (a1 - x8_1))), wrap64 (((rd_T61 l0_0 x17_1).f3) - (wrap64 (a1 - x8_1)))⟩ : S61)]) (wrap64 (x8_1 + ((rd_T61 l0_0 x17_1).f2))) l0_0 (l0_0.length : Int) (wrap64 (x17_1 + 1)) l0_0) else (none)) else (none)) = some (r1, r2) := H
            have A46 := Aside0.mk A460
            clear A460
            by_cases c47 : x6_1.length < 4398046511104
            ·rw [if_pos c47] at H
             have LMc47 := Aside0.mk c47
             clear c47
             obtain ⟨y286, hy286⟩ : ∃ y_ : List (S61), y_ = (x6_1 ++ [(⟨t282, t283, t284, t285⟩ : S61)]) := ⟨_, rfl⟩
             replace H : (if x7_1.length < 4398046511104 then (impl_Rope_split.l0 kj26 a1 y286 (x7_1 ++ [(⟨((rd_T61 l0_0 x17_1).f0), wrap64 (((rd_T61 l0_0 x17_1).f1) + (wrap64 (a1 - x8_1))), wrap64 (((rd_T61 l0_0 x17_1).f2) - (wrap64 (a1 - x8_1))), wrap64 (((rd_T61 l0_0 x17_1).f3) - (wrap64 (a1 - x8_1)))⟩ : S61)]) (wrap64 (x8_1 + ((rd_T61 l0_0 x17_1).f2))) l0_0 (l0_0.length : Int) (wrap64 (x17_1 + 1)) l0_0) else (none)) = some (r1, r2) := by first | (rw [hy286]; with_reducible exact H) | (have H2_ := (Option.bind_some _ _).symm.trans H; rw [hy286]; with_reducible exact H2_) | (have H2_ := (Option.bind_some _ _).symm.trans H; with_reducible exact H2_) | with_reducible exact H | (rw [hy286]; exact H) | exact H
             have Ny286 := Aside0.mk hy286
             clear hy286
             by_cases c48 : x7_1.length < 4398046511104
             ·rw [if_pos c48] at H
              have LMc48 := Aside0.mk c48
              clear c48
              obtain ⟨y289, hy289⟩ : ∃ y_ : List (S61), y_ = (x7_1 ++ [(⟨((rd_T61 l0_0 x17_1).f0), wrap64 (((rd_T61 l0_0 x17_1).f1) + (wrap64 (a1 - x8_1))), wrap64 (((rd_T61 l0_0 x17_1).f2) - (wrap64 (a1 - x8_1))), wrap64 (((rd_T61 l0_0 x17_1).f3) - (wrap64 (a1 - x8_1)))⟩ : S61)]) := ⟨_, rfl⟩
              replace H : (impl_Rope_split.l0 kj26 a1 y286 y289 (wrap64 (x8_1 + ((rd_T61 l0_0 x17_1).f2))) l0_0 (l0_0.length : Int) (wrap64 (x17_1 + 1)) l0_0) = some (r1, r2) := by first | (rw [hy289]; with_reducible exact H) | (have H2_ := (Option.bind_some _ _).symm.trans H; rw [hy289]; with_reducible exact H2_) | (have H2_ := (Option.bind_some _ _).symm.trans H; with_reducible exact H2_) | with_reducible exact H | (rw [hy289]; exact H) | exact H
              have Ny289 := Aside0.mk hy289
              clear hy289
              have H' := Aside0.mk H
              clear H
              have hnb49 := NB274_266.out
              have hnc49 := NB266_274.out
              have hcz50_0 := zc0 BK274 0 rfl
              have hcz50_1 := zc0 BK274 1 rfl
              have hcz50_2 := zc0 BK274 2 rfl
              have hcz50_3 := zc0 BK274 3 rfl
              have hfz50_0 := blk_frozen BK274.out 0
              have hfz50_1 := blk_frozen BK274.out 1
              have hfz50_2 := blk_frozen BK274.out 2
              have hfz50_3 := blk_frozen BK274.out 3
              go_wp2_with (first | ((with_reducible refine gate_callee (f := 103) rfl ?_); refine goesL_ (some 27) rfl rfl Try.func103 (by kernel_rfl) rfl #[.agg #[.int .i64 ((rd_T61 l0_0 x17_1).f0), .int .i64 ((rd_T61 l0_0 x17_1).f1), .int .i64 ((rd_T61 l0_0 x17_1).f2), .int .i64 ((rd_T61 l0_0 x17_1).f3)], .int .i64 0, .int .i64 (wrap64 (a1 - x8_1))] rfl (by (try simp only [zq1, zq2, zq3]); first | done | rfl | (simp only [List.length_drop, List.length_take]; rfl)) ?_; (with_reducible refine (impl_Window_part.calls ((rd_T61 l0_0 x17_1).f0) ((rd_T61 l0_0 x17_1).f1) ((rd_T61 l0_0 x17_1).f2) ((rd_T61 l0_0 x17_1).f3) 0 (wrap64 (a1 - x8_1)) t282 t283 t284 t285 _ A46.out).mono ?_); rintro e w51 ⟨rfl, hb⟩; refine ⟨_, rfl, ?_⟩; replace HO_6 := zrb HO_6 hb; replace HO_7 := zrb HO_7 hb; replace BK266 := zb0 BK266 hb; replace BK274 := zb0 BK274 hb; replace HB := zhs HB hb; (try clear hb); (try clear hb2); (try clear hk); (try clear hi)) | ((with_reducible refine gate_builtin (b := .append) (xs := #[.tmp 24, .tmp 28]) rfl ?_); at_builtin; refine Kd.R_append k61 (w0 := w) w.heap.size rfl (.tmp 24) (.tmp 28) 30 61 (.agg #[(.int .i64 0), (.int .i64 0), (.int .i64 0), (.int .i64 0)]) 32 rfl Try.underlying30 info61 rfl (by decide) (by omega) u6 x6_1 (⟨t282, t283, t284, t285⟩ : S61) [.int .i64 t282, .int .i64 t283, .int .i64 t284, .int .i64 t285] (fun k_ => some k_ ≠ (u7 : Value).ownBlock ∧ k_ ≠ gb274) (fun _ => False) rfl rfl ?aP (fun _ hk => hk.elim) ?aF ?aO ?aB ?aS ?aL ?_; (case aP => exact k61_mkM _ _ _ (⟨t282, t283, t284, t285⟩ : S61)); (case aB => exact (zh0 HB)); (case aF => exact (fun k_ hk => ⟨Kd.fresh' (Kd.R_lt (zr0 HO_7)) k_ hk, Kd.freshB (g := gb274) (o := .cells #[.int .i64 ((rd_T61 l0_0 x17_1).f0), .int .i64 ((rd_T61 l0_0 x17_1).f1), .int .i64 ((rd_T61 l0_0 x17_1).f2), .int .i64 ((rd_T61 l0_0 x17_1).f3)] 61 (0, 0)) (zk0 BK274) k_ hk⟩)); (case aO => exact (zr0 HO_6)); (case aS => exact (below_size (zh0 HB))); (case aL => have := LMc47.out; omega); intro v287 w52 ho hb hg hat; rw [← Ny286.out] at ho; have n0_ := Aside0.mk (Kd.R_after (ok := (fun k_ => k_ ≠ gb274)) (by (with_reducible repeat (first | apply Kd.R_alloc | apply Kd.R_drewN | apply Kd.R_drew)); exact Kd.R_mono HO_7.out (fun _ hk => ⟨hk.2, hk.1⟩)) hg hat); have n1_ := Aside0.mk (blk_grown (g := gb266) (o := .cells #[.slice (some ad273) l0_0.length c0_0] 32 (0, 0)) (zk0 BK266) hg (Kd.R_ne HO_6.out BK266.out (by decide))); have n2_ := Aside0.mk (blk_grown (g := gb274) (o := .cells #[.int .i64 ((rd_T61 l0_0 x17_1).f0), .int .i64 ((rd_T61 l0_0 x17_1).f1), .int .i64 ((rd_T61 l0_0 x17_1).f2), .int .i64 ((rd_T61 l0_0 x17_1).f3)] 61 (0, 0)) (zk0 BK274) hg (Kd.R_away HO_6.out (fun _ hk => hk.2))); have n3_ := Aside0.mk (hb); have n4_ := Aside0.mk (ho); clear HO_7; clear BK266; clear BK274; clear HB; clear HO_6; have HO_7 := n0_; have BK266 := n1_; have BK274 := n2_; have HB := n3_; have HO288 := n4_; clear n0_ n1_ n2_ n3_ n4_; clear ho hb hg hat; have hcz53_0 := zc0 BK274 0 rfl; have hcz53_1 := zc0 BK274 1 rfl; have hcz53_2 := zc0 BK274 2 rfl; have hcz53_3 := zc0 BK274 3 rfl; have hfz53_0 := blk_frozen BK274.out 0; have hfz53_1 := blk_frozen BK274.out 1; have hfz53_2 := blk_frozen BK274.out 2; have hfz53_3 := blk_frozen BK274.out 3) | ((with_reducible refine gate_builtin (b := .append) (xs := #[.tmp 30, .tmp 46]) rfl ?_); at_builtin; refine Kd.R_append k61 (w0 := w) w.heap.size rfl (.tmp 30) (.tmp 46) 30 61 (.agg #[(.int .i64 0), (.int .i64 0), (.int .i64 0), (.int .i64 0)]) 32 rfl Try.underlying30 info61 rfl (by decide) (by omega) u7 x7_1 (⟨((rd_T61 l0_0 x17_1).f0), wrap64 (((rd_T61 l0_0 x17_1).f1) + (wrap64 (a1 - x8_1))), wrap64 (((rd_T61 l0_0 x17_1).f2) - (wrap64 (a1 - x8_1))), wrap64 (((rd_T61 l0_0 x17_1).f3) - (wrap64 (a1 - x8_1)))⟩ : S61) [.int .i64 ((rd_T61 l0_0 x17_1).f0), .int .i64 (wrap64 (((rd_T61 l0_0 x17_1).f1) + (wrap64 (a1 - x8_1)))), .int .i64 (wrap64 (((rd_T61 l0_0 x17_1).f2) - (wrap64 (a1 - x8_1)))), .int .i64 (wrap64 (((rd_T61 l0_0 x17_1).f3) - (wrap64 (a1 - x8_1))))] (fun k_ => some k_ ≠ (v287 : Value).ownBlock ∧ k_ ≠ gb274) (fun _ => False) rfl rfl ?aP (fun _ hk => hk.elim) ?aF ?aO ?aB ?aS ?aL ?_; (case aP => exact k61_mkM _ _ _ (⟨((rd_T61 l0_0 x17_1).f0), wrap64 (((rd_T61 l0_0 x17_1).f1) + (wrap64 (a1 - x8_1))), wrap64 (((rd_T61 l0_0 x17_1).f2) - (wrap64 (a1 - x8_1))), wrap64 (((rd_T61 l0_0 x17_1).f3) - (wrap64 (a1 - x8_1)))⟩ : S61)); (case aB => exact (zh0 HB)); (case aF => exact (fun k_ hk => ⟨Kd.fresh' (Kd.R_lt (zr0 HO288)) k_ hk, Kd.freshB (g := gb274) (o := .cells #[.int .i64 ((rd_T61 l0_0 x17_1).f0), .int .i64 ((rd_T61 l0_0 x17_1).f1), .int .i64 ((rd_T61 l0_0 x17_1).f2), .int .i64 ((rd_T61 l0_0 x17_1).f3)] 61 (0, 0)) (zk0 BK274) k_ hk⟩)); (case aO => exact (by (with_reducible repeat (first | apply Kd.R_alloc | apply Kd.R_drewN | apply Kd.R_drew)); exact Kd.R_mono HO_7.out (fun _ hk => ⟨hk.2, hk.1⟩))); (case aS => exact (below_size (zh0 HB))); (case aL => have := LMc48.out; omega); intro v290 w54 ho hb hg hat; rw [← Ny289.out] at ho; have n0_ := Aside0.mk (blk_grown (g := gb266) (o := .cells #[.slice (some ad273) l0_0.length c0_0] 32 (0, 0)) (zk0 BK266) hg (Kd.R_ne HO_7.out BK266.out (by decide))); have n1_ := Aside0.mk (blk_grown (g := gb274) (o := .cells #[.int .i64 ((rd_T61 l0_0 x17_1).f0), .int .i64 ((rd_T61 l0_0 x17_1).f1), .int .i64 ((rd_T61 l0_0 x17_1).f2), .int .i64 ((rd_T61 l0_0 x17_1).f3)] 61 (0, 0)) (zk0 BK274) hg (Kd.R_away HO_7.out (fun _ hk => hk.1))); have n2_ := Aside0.mk (Kd.R_after (ok := (fun k_ => k_ ≠ gb274)) (by (with_reducible repeat (first | apply Kd.R_alloc | apply Kd.R_drewN | apply Kd.R_drew)); exact Kd.R_mono HO288.out (fun _ hk => ⟨hk.2, hk.1⟩)) hg hat); have n3_ := Aside0.mk (hb); have n4_ := Aside0.mk (ho); clear BK266; clear BK274; clear HO288; clear HB; clear HO_7; have BK266 := n0_; have BK274 := n1_; have HO288 := n2_; have HB := n3_; have HO291 := n4_; clear n0_ n1_ n2_ n3_ n4_; clear ho hb hg hat; have hcz55_0 := zc0 BK274 0 rfl; have hcz55_1 := zc0 BK274 1 rfl; have hcz55_2 := zc0 BK274 2 rfl; have hcz55_3 := zc0 BK274 3 rfl; have hfz55_0 := blk_frozen BK274.out 0; have hfz55_1 := blk_frozen BK274.out 1; have hfz55_2 := blk_frozen BK274.out 2; have hfz55_3 := blk_frozen BK274.out 3))
              go_roundg kj26
              case measure => have := HK1.out; have := HJ11.out; have := HJ26.out; omega
              case rel => exact ⟨(y286), (y289), (wrap64 (x8_1 + ((rd_T61 l0_0 x17_1).f2))), (wrap64 (x17_1 + 1)), (by first | rfl | (simp; done) | (simp [*]; done)), (by first | rfl | (simp; done) | (simp [*]; done)), H', ⟨by have := HK1.out; have := HJ11.out; have := HJ26.out; omega⟩, ⟨by (with_reducible repeat (first | apply Kd.R_alloc | apply Kd.R_drewN | apply Kd.R_drew)); exact Kd.R_mono HO288.out (fun _ hk => hk.2)⟩, ⟨by (with_reducible repeat (first | apply Kd.R_alloc | apply Kd.R_drewN | apply Kd.R_drew)); exact Kd.R_mono HO291.out (fun _ hk => hk.1)⟩, ⟨zk0 BK266⟩, ⟨by repeat (first | exact zh0 HB | refine below_set ?_ GE266.out | refine below_set ?_ GE274.out)⟩⟩
             ·rw [if_neg c48] at H
              exact absurd H (by simp)
            ·rw [if_neg c47] at H
             exact absurd H (by simp)
     ·rw [if_neg c11] at H
      exact absurd H (by simp)
    ·rw [if_neg c10] at H
     exact absurd H (by simp)
   ·rw [if_neg c9] at H
    have c9b0 : decide (x17_1 < (l0_0.length : Int)) = false := decide_eq_false c9
    clear c9
    simp only [Option.some.injEq, Prod.mk.injEq] at H
    obtain ⟨rfl, rfl⟩ := H
    go_wp2
    go_ret2
    exact ⟨_, _, by first | rfl | (simp <;> rfl) | (simp [*] <;> rfl), zr0 HO_6, zr0 HO_7, by repeat (first | exact zh0 HB | refine below_set ?_ GE266.out)⟩

open Go.Proofs.Ytldkbeccpheckab.Cp
/-! ### impl_SplitRope: function 24 -/
def impl_SplitRope.f (k : Nat) (l0_0 : List (List Int)) (l1_0 : List (S61)) (a2 : Int) : Option ((List (S61)) × (List (S61)) × Bool) := (impl_isRope.f k l0_0 l1_0).bind fun t296 => (if t296 = true then ((impl_Rope_length.f k l1_0).bind fun t297 => ((impl_within.f a2 0 t297).bind fun t298 => (if t298 = true then ((impl_Rope_split.f k l1_0 a2).bind fun bt299 => (some (bt299.1, bt299.2, true))) else (some (([] : List (S61)), ([] : List (S61)), false))))) else (some (([] : List (S61)), ([] : List (S61)), false)))
theorem impl_SplitRope.mono : ∀ a0 a1 a2 k, LeO (impl_SplitRope.f k a0 a1 a2) (impl_SplitRope.f (k + 1) a0 a1 a2) := by
 intro a0 a1 a2 k
 unfold impl_SplitRope.f
 repeat' first
   | (with_reducible exact impl_Rope_length.mono _ _)
   | (with_reducible exact impl_Rope_split.mono _ _ _)
   | (with_reducible exact impl_isRope.mono _ _ _)
   | (with_reducible exact LeO.refl _)
   | (with_reducible exact LeO.none _)
   | (with_reducible refine LeO.ite ?_ ?_)
   | (with_reducible refine LeO.bind ?_ (fun _ => ?_))
   | exact impl_Rope_length.mono _ _
   | exact impl_Rope_split.mono _ _ _
   | exact impl_isRope.mono _ _ _
   | exact LeO.none _
   | refine LeO.ite ?_ ?_
   | refine LeO.bind ?_ (fun _ => ?_)
set_option maxHeartbeats 8000000 in
set_option maxRecDepth 100000 in
theorem impl_SplitRope.calls (k : Nat) (A0_0 : Option Addr) (c0_0 : Nat) (l0_0 : List (List Int)) (A1_0 : Option Addr) (c1_0 : Nat) (l1_0 : List (S61)) (a2 : Int) (r1 : List (S61)) (r2 : List (S61)) (r3 : Bool) (w : World) (hr0_0 : Kd.C (Kd.slice 5 (Kd.int .u8)) w A0_0 l0_0.length l0_0) (hc0_0 : l0_0.length ≤ c0_0) (hr1_0 : Kd.C k61 w A1_0 l1_0.length l1_0) (hc1_0 : l1_0.length ≤ c1_0) (h : impl_SplitRope.f k l0_0 l1_0 a2 = some (r1, r2, r3)) :
  Calls Try.prog 24 #[.agg #[.slice A0_0 l0_0.length c0_0], .agg #[.slice A1_0 l1_0.length c1_0], .int .i64 a2] w fun e w' => ∃ v0_ v1_ : Value, e = .returned (.tuple #[.agg #[v0_], .agg #[v1_], .bool r3]) ∧ Kd.R k61 61 w' w.heap.size (fun k_ => some k_ ≠ (v1_ : Value).ownBlock) v0_ r1 ∧ Kd.R k61 61 w' w.heap.size (fun k_ => some k_ ≠ (v0_ : Value).ownBlock) v1_ r2 ∧ Below w.heap.size w w' := by
 have hu35 := Try.underlying35
 have hu32 := Try.underlying32
 have HR0_0 := Aside0.mk hr0_0
 have HC0_0 := Aside0.mk hc0_0
 clear hr0_0 hc0_0
 have HR1_0 := Aside0.mk hr1_0
 have HC1_0 := Aside0.mk hc1_0
 clear hr1_0 hc1_0
 have HB := Aside0.mk (Below.refl w.heap.size w)
 have H : ((impl_isRope.f k l0_0 l1_0).bind fun t296 => (if t296 = true then ((impl_Rope_length.f k l1_0).bind fun t297 => ((impl_within.f a2 0 t297).bind fun t298 => (if t298 = true then ((impl_Rope_split.f k l1_0 a2).bind fun bt299 => (some (bt299.1, bt299.2, true))) else (some (([] : List (S61)), ([] : List (S61)), false))))) else (some (([] : List (S61)), ([] : List (S61)), false)))) = some (r1, r2, r3) := h
 clear h
 replace H := Option.bind_eq_some_iff.mp H
 obtain ⟨t296, A40, H⟩ := H
 replace H : (if t296 = true then ((impl_Rope_length.f k l1_0).bind fun t297 => ((impl_within.f a2 0 t297).bind fun t298 => (if t298 = true then ((impl_Rope_split.f k l1_0 a2).bind fun bt299 => (some (bt299.1, bt299.2, true))) else (some (([] : List (S61)), ([] : List (S61)), false))))) else (some (([] : List (S61)), ([] : List (S61)), false))) = some (r1, r2, r3) := H
 have A4 := Aside0.mk A40
 clear A40
 by_cases c5 : t296 = true
 ·subst c5
  have H1 : ((impl_Rope_length.f k l1_0).bind fun t297 => ((impl_within.f a2 0 t297).bind fun t298 => (if t298 = true then ((impl_Rope_split.f k l1_0 a2).bind fun bt299 => (some (bt299.1, bt299.2, true))) else (some (([] : List (S61)), ([] : List (S61)), false))))) = some (r1, r2, r3) := by rw [if_pos rfl] at H; exact H
  clear H
  have H := H1
  clear H1
  replace H := Option.bind_eq_some_iff.mp H
  obtain ⟨t297, A60, H⟩ := H
  replace H : ((impl_within.f a2 0 t297).bind fun t298 => (if t298 = true then ((impl_Rope_split.f k l1_0 a2).bind fun bt299 => (some (bt299.1, bt299.2, true))) else (some (([] : List (S61)), ([] : List (S61)), false)))) = some (r1, r2, r3) := H
  have A6 := Aside0.mk A60
  clear A60
  replace H := Option.bind_eq_some_iff.mp H
  obtain ⟨t298, A70, H⟩ := H
  replace H : (if t298 = true then ((impl_Rope_split.f k l1_0 a2).bind fun bt299 => (some (bt299.1, bt299.2, true))) else (some (([] : List (S61)), ([] : List (S61)), false))) = some (r1, r2, r3) := H
  have A7 := Aside0.mk A70
  clear A70
  by_cases c8 : t298 = true
  ·subst c8
   have H1 : ((impl_Rope_split.f k l1_0 a2).bind fun bt299 => (some (bt299.1, bt299.2, true))) = some (r1, r2, r3) := by rw [if_pos rfl] at H; exact H
   clear H
   have H := H1
   clear H1
   replace H := Option.bind_eq_some_iff.mp H
   obtain ⟨⟨t299, t302⟩, A90, H⟩ := H
   replace H : (some (t299, t302, true)) = some (r1, r2, r3) := H
   have A9 := Aside0.mk A90
   clear A90
   simp only [Option.some.injEq, Prod.mk.injEq] at H
   obtain ⟨rfl, rfl, rfl⟩ := H
   go_enter Try.func24, Try.ntmps24
   go_wp2_with (first | ((with_reducible refine gate_dst (N := 3) rfl ?_); refine box_event ?hg (N := 3) ?hd (cs := #[.slice A0_0 l0_0.length c0_0]) (t := 35) ?hr ?_; (case hd => rfl); (case hg => rfl); (case hr => first | (go_simp; done) | (go_simp; rfl)); intro gb292 hg w10 hbox hb; have BK292 := Aside0.mk (hbox); have GW292 := zge HB hg; have GE292 := zge HB hg; replace HB := zhs HB hb; clear hb hbox hg) | ((with_reducible refine gate_dst (N := 4) rfl ?_); refine box_event ?hg (N := 4) ?hd (cs := #[.slice A1_0 l1_0.length c1_0]) (t := 32) ?hr ?_; (case hd => rfl); (case hg => rfl); (case hr => first | (go_simp; done) | (go_simp; rfl)); intro gb293 hg w11 hbox hb; have BK293 := Aside0.mk (hbox); have GW293 := zge HB hg; have GE293 := zge HB hg; have NB292_293 := znl BK292 hg; have NB293_292 := znr BK292 hg; replace BK292 := zb0 BK292 hb; replace HB := zhs HB hb; clear hb hbox hg) | ((with_reducible refine gate_dst (N := 6) rfl ?_); refine box_event ?hg (N := 6) ?hd (cs := #[.slice none 0 0]) (t := 32) ?hr ?_; (case hd => rfl); (case hg => rfl); (case hr => first | (go_simp; done) | (go_simp; rfl)); intro gb294 hg w12 hbox hb; have BK294 := Aside0.mk (hbox); have GW294 := zge HB hg; have GE294 := zge HB hg; have NB292_294 := znl BK292 hg; have NB294_292 := znr BK292 hg; have NB293_294 := znl BK293 hg; have NB294_293 := znr BK293 hg; replace BK292 := zb0 BK292 hb; replace BK293 := zb0 BK293 hb; replace HB := zhs HB hb; clear hb hbox hg) | ((with_reducible refine gate_dst (N := 7) rfl ?_); refine box_event ?hg (N := 7) ?hd (cs := #[.slice none 0 0]) (t := 32) ?hr ?_; (case hd => rfl); (case hg => rfl); (case hr => first | (go_simp; done) | (go_simp; rfl)); intro gb295 hg w13 hbox hb; have BK295 := Aside0.mk (hbox); have GW295 := zge HB hg; have GE295 := zge HB hg; have NB292_295 := znl BK292 hg; have NB295_292 := znr BK292 hg; have NB293_295 := znl BK293 hg; have NB295_293 := znr BK293 hg; have NB294_295 := znl BK294 hg; have NB295_294 := znr BK294 hg; replace BK292 := zb0 BK292 hb; replace BK293 := zb0 BK293 hb; replace BK294 := zb0 BK294 hb; replace HB := zhs HB hb; clear hb hbox hg; have hnb14 := NB292_293.out; have hnc14 := NB293_292.out; have hnb15 := NB292_294.out; have hnc15 := NB294_292.out; have hnb16 := NB292_295.out; have hnc16 := NB295_292.out; have hcz17_0 := zc0 BK292 0 rfl; have hfz17_0 := blk_frozen BK292.out 0; have hnb18 := NB293_294.out; have hnc18 := NB294_293.out; have hnb19 := NB293_295.out; have hnc19 := NB295_293.out; have hcz20_0 := zc0 BK293 0 rfl; have hfz20_0 := blk_frozen BK293.out 0) | ((with_reducible refine gate_callee (f := 93) rfl ?_); refine goesL_ (some 13) rfl rfl Try.func93 (by kernel_rfl) rfl #[.agg #[.slice A0_0 l0_0.length c0_0], .agg #[.slice A1_0 l1_0.length c1_0]] rfl (by (try simp only [zq1, zq2, zq3]); first | done | rfl | (simp only [List.length_drop, List.length_take]; rfl)) ?_; (with_reducible refine (impl_isRope.calls k _ _ l0_0 _ _ l1_0 true _ ?side1 ?side2 ?side3 ?side4 A4.out).mono ?_); (case side1 => exact Kd.C_below HR0_0.out (zh0 HB)); (case side2 => exact HC0_0.out); (case side3 => exact Kd.C_below HR1_0.out (zh0 HB)); (case side4 => exact HC1_0.out); rintro e w21 ⟨rfl, hb⟩; refine ⟨_, rfl, ?_⟩; replace BK292 := zb0 BK292 hb; replace BK293 := zb0 BK293 hb; replace BK294 := zb0 BK294 hb; replace BK295 := zb0 BK295 hb; replace HB := zhs HB hb; (try clear hb); have hcz22_0 := zc0 BK293 0 rfl; have hfz22_0 := blk_frozen BK293.out 0) | (go_at_call 101; (with_reducible refine (impl_Rope_length.calls k _ _ l1_0 t297 _ ?side1 ?side2 A6.out).mono ?_); (case side1 => exact Kd.C_below HR1_0.out (zh0 HB)); (case side2 => exact HC1_0.out); rintro e w23 ⟨rfl, hb⟩; replace BK292 := zb0 BK292 hb; replace BK293 := zb0 BK293 hb; replace BK294 := zb0 BK294 hb; replace BK295 := zb0 BK295 hb; replace HB := zhs HB hb; (try clear hb)) | (go_at_call 100; (with_reducible refine (impl_within.calls a2 0 t297 true _ A7.out).mono ?_); rintro e w' ⟨rfl, ⟨nd, rfl⟩⟩; (try simp only [World.drewN_drewN]); (try (rw [drewN_self w23]; generalize hq_ : World.drewN w23 _ = w23; have n0_ : Aside0 (w23.heap[gb292]? = some (.cells #[.slice A0_0 l0_0.length c0_0] 35 (0, 0))) := ⟨by rw [← hq_]; exact (by (with_reducible repeat (first | refine blk_drewN ?_ _ | refine blk_drew ?_ | refine blk_alloc ?_ _)); exact BK292.out)⟩; have n1_ : Aside0 (w23.heap[gb293]? = some (.cells #[.slice A1_0 l1_0.length c1_0] 32 (0, 0))) := ⟨by rw [← hq_]; exact (by (with_reducible repeat (first | refine blk_drewN ?_ _ | refine blk_drew ?_ | refine blk_alloc ?_ _)); exact BK293.out)⟩; have n2_ : Aside0 (w23.heap[gb294]? = some (.cells #[.slice none 0 0] 32 (0, 0))) := ⟨by rw [← hq_]; exact (by (with_reducible repeat (first | refine blk_drewN ?_ _ | refine blk_drew ?_ | refine blk_alloc ?_ _)); exact BK294.out)⟩; have n3_ : Aside0 (w23.heap[gb295]? = some (.cells #[.slice none 0 0] 32 (0, 0))) := ⟨by rw [← hq_]; exact (by (with_reducible repeat (first | refine blk_drewN ?_ _ | refine blk_drew ?_ | refine blk_alloc ?_ _)); exact BK295.out)⟩; have n4_ : Aside0 (Below w.heap.size w w23) := ⟨by rw [← hq_]; exact (by repeat (first | exact zh0 HB | refine below_set ?_ GE292.out | refine below_set ?_ GE293.out | refine below_set ?_ GE294.out | refine below_set ?_ GE295.out))⟩; clear BK292 BK293 BK294 BK295 HB hq_; have BK292 := n0_; have BK293 := n1_; have BK294 := n2_; have BK295 := n3_; have HB := n4_; clear n0_ n1_ n2_ n3_ n4_)); have hcz24_0 := zc0 BK293 0 rfl; have hfz24_0 := blk_frozen BK293.out 0) | ((with_reducible refine gate_callee (f := 102) rfl ?_); refine goesL_ (some 27) rfl rfl Try.func102 (by kernel_rfl) rfl #[.agg #[.slice A1_0 l1_0.length c1_0], .int .i64 a2] rfl (by (try simp only [zq1, zq2, zq3]); first | done | rfl | (simp only [List.length_drop, List.length_take]; rfl)) ?_; (with_reducible refine (impl_Rope_split.calls k _ _ l1_0 a2 t299 t302 _ ?side1 ?side2 A9.out).mono ?_); (case side1 => exact Kd.C_below HR1_0.out (zh0 HB)); (case side2 => exact HC1_0.out); rintro e w25 ⟨v300, v303, rfl, ho0, ho1, hb⟩; refine ⟨_, rfl, ?_⟩; have HO301 := Aside0.mk (Kd.R_lower ho0 (below_size (by repeat (first | exact zh0 HB | refine below_set ?_ GE292.out | refine below_set ?_ GE293.out | refine below_set ?_ GE294.out | refine below_set ?_ GE295.out)))); have HO304 := Aside0.mk (Kd.R_lower ho1 (below_size (by repeat (first | exact zh0 HB | refine below_set ?_ GE292.out | refine below_set ?_ GE293.out | refine below_set ?_ GE294.out | refine below_set ?_ GE295.out)))); replace BK292 := zb0 BK292 hb; replace BK293 := zb0 BK293 hb; replace BK294 := zb0 BK294 hb; replace BK295 := zb0 BK295 hb; replace HB := Aside0.mk (below_step (by repeat (first | exact zh0 HB | refine below_set ?_ GE292.out | refine below_set ?_ GE293.out | refine below_set ?_ GE294.out | refine below_set ?_ GE295.out)) hb); (try clear hb); (try clear ho0); (try clear ho1); obtain ⟨Ao26, co26, eo26⟩ := Kd.R_slice HO301.out; subst eo26; obtain ⟨Ao27, co27, eo27⟩ := Kd.R_slice HO304.out; subst eo27; have hnb28 := NB294_295.out; have hnc28 := NB295_294.out; have hcz29_0 := zc0 BK294 0 rfl; have hfz29_0 := blk_frozen BK294.out 0; have hcz30_0 := zc0 BK295 0 rfl; have hfz30_0 := blk_frozen BK295.out 0))
   refine bodyPost_ret (results_list (rs := [.cell 6 32, .cell 7 32, .tmp 8]) rfl (by simp) (.cell gb294 32 #[.slice Ao26 t299.length co26] (0, 0) _ rfl (by (with_reducible repeat (first | refine blk_drewN ?_ _ | refine blk_drew ?_ | refine blk_alloc ?_ _)); refine blk_far ?_ NB294_295.out _; refine blk_put (cs := #[.slice none 0 0]) ?_ 0 _ rfl; (with_reducible repeat (first | refine blk_drewN ?_ _ | refine blk_drew ?_ | refine blk_alloc ?_ _)); exact BK294.out) Try.underlying32 rfl (by kernel_rfl) (.cell gb295 32 #[.slice Ao27 t302.length co27] (0, 0) _ rfl (by (with_reducible repeat (first | refine blk_drewN ?_ _ | refine blk_drew ?_ | refine blk_alloc ?_ _)); refine blk_put (cs := #[.slice none 0 0]) ?_ 0 _ rfl; refine blk_far ?_ NB295_294.out _; (with_reducible repeat (first | refine blk_drewN ?_ _ | refine blk_drew ?_ | refine blk_alloc ?_ _)); exact BK295.out) Try.underlying32 rfl (by kernel_rfl) (.tmp .nil)))) rfl ?_
   exact ⟨_, _, by first | rfl | (simp <;> rfl) | (simp [*] <;> rfl), by (with_reducible repeat (first | apply Kd.R_alloc | apply Kd.R_drewN | apply Kd.R_drew)); exact Kd.R_mono (Kd.R_far (p := ⟨gb295, 0, none⟩) (Kd.R_far (p := ⟨gb294, 0, none⟩) (Kd.R_types (Kd.R_types HO301.out BK294.out (by decide)) BK295.out (by decide)) (fun _ hk => hk.1.2) (.slice Ao26 t299.length co26)) (fun _ hk => hk.2) (.slice Ao27 t302.length co27)) (fun _ hk => hk.1.1), by (with_reducible repeat (first | apply Kd.R_alloc | apply Kd.R_drewN | apply Kd.R_drew)); exact Kd.R_mono (Kd.R_far (p := ⟨gb295, 0, none⟩) (Kd.R_far (p := ⟨gb294, 0, none⟩) (Kd.R_types (Kd.R_types HO304.out BK294.out (by decide)) BK295.out (by decide)) (fun _ hk => hk.1.2) (.slice Ao26 t299.length co26)) (fun _ hk => hk.2) (.slice Ao27 t302.length co27)) (fun _ hk => hk.1.1), by repeat (first | exact zh0 HB | refine below_set ?_ GE292.out | refine below_set ?_ GE293.out | refine below_set ?_ GE294.out | refine below_set ?_ GE295.out)⟩
  ·replace c8 := Bool.eq_false_iff.mpr c8
   subst c8
   have H1 : (some (([] : List (S61)), ([] : List (S61)), false)) = some (r1, r2, r3) := by rw [if_neg (show ¬ (false = true) by decide)] at H; exact H
   clear H
   have H := H1
   clear H1
   simp only [Option.some.injEq, Prod.mk.injEq] at H
   obtain ⟨rfl, rfl, rfl⟩ := H
   go_enter Try.func24, Try.ntmps24
   go_wp2_with (first | ((with_reducible refine gate_dst (N := 3) rfl ?_); refine box_event ?hg (N := 3) ?hd (cs := #[.slice A0_0 l0_0.length c0_0]) (t := 35) ?hr ?_; (case hd => rfl); (case hg => rfl); (case hr => first | (go_simp; done) | (go_simp; rfl)); intro gb292 hg w31 hbox hb; have BK292 := Aside0.mk (hbox); have GW292 := zge HB hg; have GE292 := zge HB hg; replace HB := zhs HB hb; clear hb hbox hg) | ((with_reducible refine gate_dst (N := 4) rfl ?_); refine box_event ?hg (N := 4) ?hd (cs := #[.slice A1_0 l1_0.length c1_0]) (t := 32) ?hr ?_; (case hd => rfl); (case hg => rfl); (case hr => first | (go_simp; done) | (go_simp; rfl)); intro gb293 hg w32 hbox hb; have BK293 := Aside0.mk (hbox); have GW293 := zge HB hg; have GE293 := zge HB hg; have NB292_293 := znl BK292 hg; have NB293_292 := znr BK292 hg; replace BK292 := zb0 BK292 hb; replace HB := zhs HB hb; clear hb hbox hg) | ((with_reducible refine gate_dst (N := 6) rfl ?_); refine box_event ?hg (N := 6) ?hd (cs := #[.slice none 0 0]) (t := 32) ?hr ?_; (case hd => rfl); (case hg => rfl); (case hr => first | (go_simp; done) | (go_simp; rfl)); intro gb294 hg w33 hbox hb; have BK294 := Aside0.mk (hbox); have GW294 := zge HB hg; have GE294 := zge HB hg; have NB292_294 := znl BK292 hg; have NB294_292 := znr BK292 hg; have NB293_294 := znl BK293 hg; have NB294_293 := znr BK293 hg; replace BK292 := zb0 BK292 hb; replace BK293 := zb0 BK293 hb; replace HB := zhs HB hb; clear hb hbox hg) | ((with_reducible refine gate_dst (N := 7) rfl ?_); refine box_event ?hg (N := 7) ?hd (cs := #[.slice none 0 0]) (t := 32) ?hr ?_; (case hd => rfl); (case hg => rfl); (case hr => first | (go_simp; done) | (go_simp; rfl)); intro gb295 hg w34 hbox hb; have BK295 := Aside0.mk (hbox); have GW295 := zge HB hg; have GE295 := zge HB hg; have NB292_295 := znl BK292 hg; have NB295_292 := znr BK292 hg; have NB293_295 := znl BK293 hg; have NB295_293 := znr BK293 hg; have NB294_295 := znl BK294 hg; have NB295_294 := znr BK294 hg; replace BK292 := zb0 BK292 hb; replace BK293 := zb0 BK293 hb; replace BK294 := zb0 BK294 hb; replace HB := zhs HB hb; clear hb hbox hg; have hnb35 := NB292_293.out; have hnc35 := NB293_292.out; have hnb36 := NB292_294.out; have hnc36 := NB294_292.out; have hnb37 := NB292_295.out; have hnc37 := NB295_292.out; have hcz38_0 := zc0 BK292 0 rfl; have hfz38_0 := blk_frozen BK292.out 0; have hnb39 := NB293_294.out; have hnc39 := NB294_293.out; have hnb40 := NB293_295.out; have hnc40 := NB295_293.out; have hcz41_0 := zc0 BK293 0 rfl; have hfz41_0 := blk_frozen BK293.out 0) | ((with_reducible refine gate_callee (f := 93) rfl ?_); refine goesL_ (some 13) rfl rfl Try.func93 (by kernel_rfl) rfl #[.agg #[.slice A0_0 l0_0.length c0_0], .agg #[.slice A1_0 l1_0.length c1_0]] rfl (by (try simp only [zq1, zq2, zq3]); first | done | rfl | (simp only [List.length_drop, List.length_take]; rfl)) ?_; (with_reducible refine (impl_isRope.calls k _ _ l0_0 _ _ l1_0 true _ ?side1 ?side2 ?side3 ?side4 A4.out).mono ?_); (case side1 => exact Kd.C_below HR0_0.out (zh0 HB)); (case side2 => exact HC0_0.out); (case side3 => exact Kd.C_below HR1_0.out (zh0 HB)); (case side4 => exact HC1_0.out); rintro e w42 ⟨rfl, hb⟩; refine ⟨_, rfl, ?_⟩; replace BK292 := zb0 BK292 hb; replace BK293 := zb0 BK293 hb; replace BK294 := zb0 BK294 hb; replace BK295 := zb0 BK295 hb; replace HB := zhs HB hb; (try clear hb); have hcz43_0 := zc0 BK293 0 rfl; have hfz43_0 := blk_frozen BK293.out 0) | (go_at_call 101; (with_reducible refine (impl_Rope_length.calls k _ _ l1_0 t297 _ ?side1 ?side2 A6.out).mono ?_); (case side1 => exact Kd.C_below HR1_0.out (zh0 HB)); (case side2 => exact HC1_0.out); rintro e w44 ⟨rfl, hb⟩; replace BK292 := zb0 BK292 hb; replace BK293 := zb0 BK293 hb; replace BK294 := zb0 BK294 hb; replace BK295 := zb0 BK295 hb; replace HB := zhs HB hb; (try clear hb)) | (go_at_call 100; (with_reducible refine (impl_within.calls a2 0 t297 false _ A7.out).mono ?_); rintro e w' ⟨rfl, ⟨nd, rfl⟩⟩; (try simp only [World.drewN_drewN]); (try (rw [drewN_self w44]; generalize hq_ : World.drewN w44 _ = w44; have n0_ : Aside0 (w44.heap[gb292]? = some (.cells #[.slice A0_0 l0_0.length c0_0] 35 (0, 0))) := ⟨by rw [← hq_]; exact (by (with_reducible repeat (first | refine blk_drewN ?_ _ | refine blk_drew ?_ | refine blk_alloc ?_ _)); exact BK292.out)⟩; have n1_ : Aside0 (w44.heap[gb293]? = some (.cells #[.slice A1_0 l1_0.length c1_0] 32 (0, 0))) := ⟨by rw [← hq_]; exact (by (with_reducible repeat (first | refine blk_drewN ?_ _ | refine blk_drew ?_ | refine blk_alloc ?_ _)); exact BK293.out)⟩; have n2_ : Aside0 (w44.heap[gb294]? = some (.cells #[.slice none 0 0] 32 (0, 0))) := ⟨by rw [← hq_]; exact (by (with_reducible repeat (first | refine blk_drewN ?_ _ | refine blk_drew ?_ | refine blk_alloc ?_ _)); exact BK294.out)⟩; have n3_ : Aside0 (w44.heap[gb295]? = some (.cells #[.slice none 0 0] 32 (0, 0))) := ⟨by rw [← hq_]; exact (by (with_reducible repeat (first | refine blk_drewN ?_ _ | refine blk_drew ?_ | refine blk_alloc ?_ _)); exact BK295.out)⟩; have n4_ : Aside0 (Below w.heap.size w w44) := ⟨by rw [← hq_]; exact (by repeat (first | exact zh0 HB | refine below_set ?_ GE292.out | refine below_set ?_ GE293.out | refine below_set ?_ GE294.out | refine below_set ?_ GE295.out))⟩; clear BK292 BK293 BK294 BK295 HB hq_; have BK292 := n0_; have BK293 := n1_; have BK294 := n2_; have BK295 := n3_; have HB := n4_; clear n0_ n1_ n2_ n3_ n4_)); have hnb45 := NB294_295.out; have hnc45 := NB295_294.out; have hcz46_0 := zc0 BK294 0 rfl; have hfz46_0 := blk_frozen BK294.out 0; have hcz47_0 := zc0 BK295 0 rfl; have hfz47_0 := blk_frozen BK295.out 0))
   refine bodyPost_ret (results_list (rs := [.cell 6 32, .cell 7 32, .tmp 8]) rfl (by simp) (.cell gb294 32 #[.slice none 0 0] (0, 0) _ rfl (by (with_reducible repeat (first | refine blk_drewN ?_ _ | refine blk_drew ?_ | refine blk_alloc ?_ _)); refine blk_far ?_ NB294_295.out _; refine blk_put (cs := #[.slice none 0 0]) ?_ 0 _ rfl; (with_reducible repeat (first | refine blk_drewN ?_ _ | refine blk_drew ?_ | refine blk_alloc ?_ _)); exact BK294.out) Try.underlying32 rfl (by kernel_rfl) (.cell gb295 32 #[.slice none 0 0] (0, 0) _ rfl (by (with_reducible repeat (first | refine blk_drewN ?_ _ | refine blk_drew ?_ | refine blk_alloc ?_ _)); refine blk_put (cs := #[.slice none 0 0]) ?_ 0 _ rfl; refine blk_far ?_ NB295_294.out _; (with_reducible repeat (first | refine blk_drewN ?_ _ | refine blk_drew ?_ | refine blk_alloc ?_ _)); exact BK295.out) Try.underlying32 rfl (by kernel_rfl) (.tmp .nil)))) rfl ?_
   exact ⟨_, _, by first | rfl | (simp <;> rfl) | (simp [*] <;> rfl), by first | exact Kd.R_nil _ _ _ _ _ | exact Kd.N_nil _ _ _ _ _ | exact Kd.V_nil _ _ _ _ _ | exact Kd.Q_nil _ _ _ _ _ | exact Kd.S_nil _ _ _ _ _, by first | exact Kd.R_nil _ _ _ _ _ | exact Kd.N_nil _ _ _ _ _ | exact Kd.V_nil _ _ _ _ _ | exact Kd.Q_nil _ _ _ _ _ | exact Kd.S_nil _ _ _ _ _, by repeat (first | exact zh0 HB | refine below_set ?_ GE292.out | refine below_set ?_ GE293.out | refine below_set ?_ GE294.out | refine below_set ?_ GE295.out)⟩
 ·replace c5 := Bool.eq_false_iff.mpr c5
  subst c5
  have H1 : (some (([] : List (S61)), ([] : List (S61)), false)) = some (r1, r2, r3) := by rw [if_neg (show ¬ (false = true) by decide)] at H; exact H
  clear H
  have H := H1
  clear H1
  simp only [Option.some.injEq, Prod.mk.injEq] at H
  obtain ⟨rfl, rfl, rfl⟩ := H
  go_enter Try.func24, Try.ntmps24
  go_wp2_with (first | ((with_reducible refine gate_dst (N := 3) rfl ?_); refine box_event ?hg (N := 3) ?hd (cs := #[.slice A0_0 l0_0.length c0_0]) (t := 35) ?hr ?_; (case hd => rfl); (case hg => rfl); (case hr => first | (go_simp; done) | (go_simp; rfl)); intro gb292 hg w48 hbox hb; have BK292 := Aside0.mk (hbox); have GW292 := zge HB hg; have GE292 := zge HB hg; replace HB := zhs HB hb; clear hb hbox hg) | ((with_reducible refine gate_dst (N := 4) rfl ?_); refine box_event ?hg (N := 4) ?hd (cs := #[.slice A1_0 l1_0.length c1_0]) (t := 32) ?hr ?_; (case hd => rfl); (case hg => rfl); (case hr => first | (go_simp; done) | (go_simp; rfl)); intro gb293 hg w49 hbox hb; have BK293 := Aside0.mk (hbox); have GW293 := zge HB hg; have GE293 := zge HB hg; have NB292_293 := znl BK292 hg; have NB293_292 := znr BK292 hg; replace BK292 := zb0 BK292 hb; replace HB := zhs HB hb; clear hb hbox hg) | ((with_reducible refine gate_dst (N := 6) rfl ?_); refine box_event ?hg (N := 6) ?hd (cs := #[.slice none 0 0]) (t := 32) ?hr ?_; (case hd => rfl); (case hg => rfl); (case hr => first | (go_simp; done) | (go_simp; rfl)); intro gb294 hg w50 hbox hb; have BK294 := Aside0.mk (hbox); have GW294 := zge HB hg; have GE294 := zge HB hg; have NB292_294 := znl BK292 hg; have NB294_292 := znr BK292 hg; have NB293_294 := znl BK293 hg; have NB294_293 := znr BK293 hg; replace BK292 := zb0 BK292 hb; replace BK293 := zb0 BK293 hb; replace HB := zhs HB hb; clear hb hbox hg) | ((with_reducible refine gate_dst (N := 7) rfl ?_); refine box_event ?hg (N := 7) ?hd (cs := #[.slice none 0 0]) (t := 32) ?hr ?_; (case hd => rfl); (case hg => rfl); (case hr => first | (go_simp; done) | (go_simp; rfl)); intro gb295 hg w51 hbox hb; have BK295 := Aside0.mk (hbox); have GW295 := zge HB hg; have GE295 := zge HB hg; have NB292_295 := znl BK292 hg; have NB295_292 := znr BK292 hg; have NB293_295 := znl BK293 hg; have NB295_293 := znr BK293 hg; have NB294_295 := znl BK294 hg; have NB295_294 := znr BK294 hg; replace BK292 := zb0 BK292 hb; replace BK293 := zb0 BK293 hb; replace BK294 := zb0 BK294 hb; replace HB := zhs HB hb; clear hb hbox hg; have hnb52 := NB292_293.out; have hnc52 := NB293_292.out; have hnb53 := NB292_294.out; have hnc53 := NB294_292.out; have hnb54 := NB292_295.out; have hnc54 := NB295_292.out; have hcz55_0 := zc0 BK292 0 rfl; have hfz55_0 := blk_frozen BK292.out 0; have hnb56 := NB293_294.out; have hnc56 := NB294_293.out; have hnb57 := NB293_295.out; have hnc57 := NB295_293.out; have hcz58_0 := zc0 BK293 0 rfl; have hfz58_0 := blk_frozen BK293.out 0) | ((with_reducible refine gate_callee (f := 93) rfl ?_); refine goesL_ (some 13) rfl rfl Try.func93 (by kernel_rfl) rfl #[.agg #[.slice A0_0 l0_0.length c0_0], .agg #[.slice A1_0 l1_0.length c1_0]] rfl (by (try simp only [zq1, zq2, zq3]); first | done | rfl | (simp only [List.length_drop, List.length_take]; rfl)) ?_; (with_reducible refine (impl_isRope.calls k _ _ l0_0 _ _ l1_0 false _ ?side1 ?side2 ?side3 ?side4 A4.out).mono ?_); (case side1 => exact Kd.C_below HR0_0.out (zh0 HB)); (case side2 => exact HC0_0.out); (case side3 => exact Kd.C_below HR1_0.out (zh0 HB)); (case side4 => exact HC1_0.out); rintro e w59 ⟨rfl, hb⟩; refine ⟨_, rfl, ?_⟩; replace BK292 := zb0 BK292 hb; replace BK293 := zb0 BK293 hb; replace BK294 := zb0 BK294 hb; replace BK295 := zb0 BK295 hb; replace HB := Aside0.mk (below_step (by repeat (first | exact zh0 HB | refine below_set ?_ GE292.out | refine below_set ?_ GE293.out | refine below_set ?_ GE294.out | refine below_set ?_ GE295.out)) hb); (try clear hb); have hnb60 := NB294_295.out; have hnc60 := NB295_294.out; have hcz61_0 := zc0 BK294 0 rfl; have hfz61_0 := blk_frozen BK294.out 0; have hcz62_0 := zc0 BK295 0 rfl; have hfz62_0 := blk_frozen BK295.out 0))
  refine bodyPost_ret (results_list (rs := [.cell 6 32, .cell 7 32, .tmp 8]) rfl (by simp) (.cell gb294 32 #[.slice none 0 0] (0, 0) _ rfl (by (with_reducible repeat (first | refine blk_drewN ?_ _ | refine blk_drew ?_ | refine blk_alloc ?_ _)); refine blk_far ?_ NB294_295.out _; refine blk_put (cs := #[.slice none 0 0]) ?_ 0 _ rfl; (with_reducible repeat (first | refine blk_drewN ?_ _ | refine blk_drew ?_ | refine blk_alloc ?_ _)); exact BK294.out) Try.underlying32 rfl (by kernel_rfl) (.cell gb295 32 #[.slice none 0 0] (0, 0) _ rfl (by (with_reducible repeat (first | refine blk_drewN ?_ _ | refine blk_drew ?_ | refine blk_alloc ?_ _)); refine blk_put (cs := #[.slice none 0 0]) ?_ 0 _ rfl; refine blk_far ?_ NB295_294.out _; (with_reducible repeat (first | refine blk_drewN ?_ _ | refine blk_drew ?_ | refine blk_alloc ?_ _)); exact BK295.out) Try.underlying32 rfl (by kernel_rfl) (.tmp .nil)))) rfl ?_
  exact ⟨_, _, by first | rfl | (simp <;> rfl) | (simp [*] <;> rfl), by first | exact Kd.R_nil _ _ _ _ _ | exact Kd.N_nil _ _ _ _ _ | exact Kd.V_nil _ _ _ _ _ | exact Kd.Q_nil _ _ _ _ _ | exact Kd.S_nil _ _ _ _ _, by first | exact Kd.R_nil _ _ _ _ _ | exact Kd.N_nil _ _ _ _ _ | exact Kd.V_nil _ _ _ _ _ | exact Kd.Q_nil _ _ _ _ _ | exact Kd.S_nil _ _ _ _ _, by repeat (first | exact zh0 HB | refine below_set ?_ GE292.out | refine below_set ?_ GE293.out | refine below_set ?_ GE294.out | refine below_set ?_ GE295.out)⟩

/-! ### laws_FnExactSplitRope: function 4 (by hand) -/
def laws_FnExactSplitRope.f (k : Nat) (l0_0 : List (List Int)) (l1_0 : List (S53)) (a2 : Int) : Option Bool := (laws_szMemory.f k l0_0 1048576).bind fun x1 => if x1 < 0 then some true else (laws_szRope.f l1_0 x1).bind fun x3 => if x3 < 0 then some true else (laws_toMemory.f k l0_0).bind fun x5 => (laws_toRope.f k l1_0).bind fun x8 => (spec_SplitRope.f k x5 x8 a2).bind fun y_x11 => (impl_SplitRope.f k x5 x8 a2).bind fun y_x23 => (laws_eqRope.f k (y_x23.1) (y_x11.1)).bind fun x31 => (laws_eqRope.f k (y_x23.2.1) (y_x11.2.1)).bind fun x33 => (laws_eqMemory.f k x5 x5).bind fun x36 => (laws_eqRope.f k x8 x8).bind fun x39 => (laws_markMemory.f k x5 1).bind fun x41 => (laws_markRope.f k x8 x41).bind fun y_x43 => (laws_markRope.f k (y_x23.1) 1).bind fun y_x46 => (laws_markRope.f k (y_x23.2.1) (y_x46.1)).bind fun y_x49 => (laws_heldRope.f k (y_x46.2) 1).bind fun x52 => (laws_heldRope.f k (y_x49.2) x52).bind fun x54 => if x31 = true ∧ x33 = true ∧ x36 = true ∧ x39 = true ∧ y_x23.2.2 = y_x11.2.2 ∧ ¬ y_x43.1 < 0 ∧ ¬ x52 < 0 ∧ ¬ x54 < 0 ∧ x54 = y_x49.1 then some true else none
theorem laws_FnExactSplitRope.mono : ∀ l0_0 l1_0 a2 k, LeO (laws_FnExactSplitRope.f k l0_0 l1_0 a2) (laws_FnExactSplitRope.f (k + 1) l0_0 l1_0 a2) := by
  intro l0_0 l1_0 a2 k
  unfold laws_FnExactSplitRope.f
  exact LeO.bind (by apply laws_szMemory.mono) (fun _ => LeO.ite (LeO.refl _) (LeO.bind (LeO.refl _) (fun _ => LeO.ite (LeO.refl _) (LeO.bind (by apply laws_toMemory.mono) (fun _ => LeO.bind (by apply laws_toRope.mono) (fun _ => LeO.bind (by apply spec_SplitRope.mono) (fun _ => LeO.bind (by apply impl_SplitRope.mono) (fun _ => LeO.bind (by apply laws_eqRope.mono) (fun _ => LeO.bind (by apply laws_eqRope.mono) (fun _ => LeO.bind (by apply laws_eqMemory.mono) (fun _ => LeO.bind (by apply laws_eqRope.mono) (fun _ => LeO.bind (by apply laws_markMemory.mono) (fun _ => LeO.bind (by apply laws_markRope.mono) (fun _ => LeO.bind (by apply laws_markRope.mono) (fun _ => LeO.bind (by apply laws_markRope.mono) (fun _ => LeO.bind (by apply laws_heldRope.mono) (fun _ => LeO.bind (by apply laws_heldRope.mono) (fun _ => LeO.refl _))))))))))))))))))
set_option maxHeartbeats 4000000 in
set_option maxRecDepth 100000 in
theorem laws_FnExactSplitRope.calls (k : Nat) (A0_0 : Option Addr) (c0_0 : Nat) (l0_0 : List (List Int)) (A1_0 : Option Addr) (c1_0 : Nat) (l1_0 : List (S53)) (a2 : Int) (r : Bool) (w : World) (hr0_0 : Kd.C (Kd.slice 5 (Kd.int .u8)) w A0_0 l0_0.length l0_0) (hc0_0 : l0_0.length ≤ c0_0) (hr1_0 : Kd.C k53 w A1_0 l1_0.length l1_0) (hc1_0 : l1_0.length ≤ c1_0) (h : laws_FnExactSplitRope.f k l0_0 l1_0 a2 = some r) :
    Calls Try.prog 4 #[.agg #[.slice A0_0 l0_0.length c0_0], .agg #[.slice A1_0 l1_0.length c1_0], .int .i64 a2] w fun e w' => e = .returned (.bool r) ∧ Below w.heap.size w w' := by
  have HR0_0 := Lib.hid hr0_0
  have HC0_0 := Lib.hid hc0_0
  clear hr0_0 hc0_0
  have HR1_0 := Lib.hid hr1_0
  have HC1_0 := Lib.hid hc1_0
  clear hr1_0 hc1_0
  obtain ⟨W0, hW⟩ : ∃ W, W = ((w.alloc (.cells #[.slice A0_0 l0_0.length c0_0] 24)).alloc (.cells #[.slice A1_0 l1_0.length c1_0] 27)) := ⟨_, rfl⟩
  have HI : Hid (Lv.Inv w W0 [Lv.boxF (w.heap.size + 1) #[.slice A1_0 l1_0.length c1_0] 27, Lv.boxF (w.heap.size) #[.slice A0_0 l0_0.length c0_0] 24]) := by
    subst hW
    have := (((Lv.Inv.refl w).box #[.slice A0_0 l0_0.length c0_0] 24).box #[.slice A1_0 l1_0.length c1_0] 27)
    exact Lib.hid (by simpa using this)
  unfold laws_FnExactSplitRope.f at h
  replace h := Option.bind_eq_some_iff.mp h
  obtain ⟨x1, A2, h⟩ := h
  try dsimp only at h
  have HA2 := Lib.hid A2
  clear A2
  have HH := Lib.hid h
  clear h
  go_enter Try.func4, Try.ntmps4
  go_upto_region 1 with (fail)
  rw [← hW]
  clear hW
  go_upto_region 2 with (fail)
  refine Fl.startL [.take 0, .take 1, .one 2, .take 3] (by decide) HI.out ?_
  refine Fl.take (some 22) (v := .agg #[.slice A0_0 l0_0.length c0_0]) rfl rfl (Fl.ld 1 rfl (by rfl) _ _ rfl rfl Try.underlying24 rfl (by kernel_rfl)) ?_
  simp only [Act.put, Fl.z1, Fl.z2, Fl.z3]
  refine Fl.take (some 23) (v := .int .i64 1048576) rfl rfl (Or.inl ⟨by rfl, fun _ _ => by rfl⟩) ?_
  simp only [Act.put, Fl.z1, Fl.z2, Fl.z3]
  refine Fl.call (some 24) Try.func12 (by kernel_rfl) rfl #[.agg #[.slice A0_0 l0_0.length c0_0], .int .i64 1048576] rfl rfl rfl (by rfl) rfl (fun E W hE hi => ?_)
  refine (laws_szMemory.calls k _ _ l0_0 1048576 x1 W (Kd.C_below HR0_0.out hi.bel) HC0_0.out HA2.out).mono ?_
  rintro e W' ⟨rfl, hb⟩
  refine Fl.keep hi hb ?_
  clear hi hb hE
  simp only [Act.put, Fl.z1, Fl.z2, Fl.z3]
  refine Fl.take (some 7) (v := .int .i64 x1) rfl rfl (Or.inl ⟨by rfl, fun _ _ => by rfl⟩) ?_
  simp only [Act.put, Fl.z1, Fl.z2, Fl.z3]
  refine Fl.stop (fun W hi => ?_)
  replace HI := Lib.hid hi
  clear hi
  try clear hn_
  have h := HH.out
  clear HH
  by_cases hn : x1 < 0
  · rw [if_pos hn] at h
    obtain rfl := Option.some.inj h
    clear h
    have hn_ := decide_eq_true hn
    go_wp2
    go_ret
    exact ⟨rfl, HI.out.bel⟩
  rw [if_neg hn] at h
  have hn_ := decide_eq_false hn
  clear hn
  replace h := Option.bind_eq_some_iff.mp h
  obtain ⟨x3, A4, h⟩ := h
  try dsimp only at h
  have HA4 := Lib.hid A4
  clear A4
  have HH := Lib.hid h
  clear h
  go_upto_region 5 with (fail)
  refine Fl.startL [.take 0, .take 1, .one 2, .take 3] (by decide) HI.out ?_
  refine Fl.take (some 27) (v := .agg #[.slice A1_0 l1_0.length c1_0]) rfl rfl (Fl.ld 0 rfl (by rfl) _ _ rfl rfl Try.underlying27 rfl (by kernel_rfl)) ?_
  simp only [Act.put, Fl.z1, Fl.z2, Fl.z3]
  refine Fl.take (some 28) (v := .int .i64 x1) rfl rfl (Or.inl ⟨by rfl, fun _ _ => by rfl⟩) ?_
  simp only [Act.put, Fl.z1, Fl.z2, Fl.z3]
  refine Fl.call (some 29) Try.func13 (by kernel_rfl) rfl #[.agg #[.slice A1_0 l1_0.length c1_0], .int .i64 x1] rfl rfl rfl (by rfl) rfl (fun E W hE hi => ?_)
  refine (laws_szRope.calls _ _ l1_0 x1 x3 W (Kd.C_below HR1_0.out hi.bel) HC1_0.out HA4.out).mono ?_
  rintro e W' ⟨rfl, hb⟩
  refine Fl.keep hi hb ?_
  clear hi hb hE
  simp only [Act.put, Fl.z1, Fl.z2, Fl.z3]
  refine Fl.take (some 7) (v := .int .i64 x3) rfl rfl (Or.inl ⟨by rfl, fun _ _ => by rfl⟩) ?_
  simp only [Act.put, Fl.z1, Fl.z2, Fl.z3]
  refine Fl.stop (fun W hi => ?_)
  replace HI := Lib.hid hi
  clear hi
  try clear hn_
  have h := HH.out
  clear HH
  by_cases hn : x3 < 0
  · rw [if_pos hn] at h
    obtain rfl := Option.some.inj h
    clear h
    have hn_ := decide_eq_true hn
    go_wp2
    go_ret
    exact ⟨rfl, HI.out.bel⟩
  rw [if_neg hn] at h
  have hn_ := decide_eq_false hn
  clear hn
  replace h := Option.bind_eq_some_iff.mp h
  obtain ⟨x5, A6, h⟩ := h
  try dsimp only at h
  have HA6 := Lib.hid A6
  clear A6
  replace h := Option.bind_eq_some_iff.mp h
  obtain ⟨x8, A9, h⟩ := h
  try dsimp only at h
  have HA9 := Lib.hid A9
  clear A9
  replace h := Option.bind_eq_some_iff.mp h
  obtain ⟨⟨x11, x12, x13⟩, A14, h⟩ := h
  try dsimp only at h
  have HA14 := Lib.hid A14
  clear A14
  replace h := Option.bind_eq_some_iff.mp h
  obtain ⟨⟨x23, x24, x25⟩, A26, h⟩ := h
  try dsimp only at h
  have HA26 := Lib.hid A26
  clear A26
  replace h := Option.bind_eq_some_iff.mp h
  obtain ⟨x31, A32, h⟩ := h
  try dsimp only at h
  have HA32 := Lib.hid A32
  clear A32
  replace h := Option.bind_eq_some_iff.mp h
  obtain ⟨x33, A34, h⟩ := h
  try dsimp only at h
  have HA34 := Lib.hid A34
  clear A34
  replace h := Option.bind_eq_some_iff.mp h
  obtain ⟨x36, A37, h⟩ := h
  try dsimp only at h
  have HA37 := Lib.hid A37
  clear A37
  replace h := Option.bind_eq_some_iff.mp h
  obtain ⟨x39, A40, h⟩ := h
  try dsimp only at h
  have HA40 := Lib.hid A40
  clear A40
  replace h := Option.bind_eq_some_iff.mp h
  obtain ⟨x41, A42, h⟩ := h
  try dsimp only at h
  have HA42 := Lib.hid A42
  clear A42
  replace h := Option.bind_eq_some_iff.mp h
  obtain ⟨⟨x43, x44⟩, A45, h⟩ := h
  try dsimp only at h
  have HA45 := Lib.hid A45
  clear A45
  replace h := Option.bind_eq_some_iff.mp h
  obtain ⟨⟨x46, x47⟩, A48, h⟩ := h
  try dsimp only at h
  have HA48 := Lib.hid A48
  clear A48
  replace h := Option.bind_eq_some_iff.mp h
  obtain ⟨⟨x49, x50⟩, A51, h⟩ := h
  try dsimp only at h
  have HA51 := Lib.hid A51
  clear A51
  replace h := Option.bind_eq_some_iff.mp h
  obtain ⟨x52, A53, h⟩ := h
  try dsimp only at h
  have HA53 := Lib.hid A53
  clear A53
  replace h := Option.bind_eq_some_iff.mp h
  obtain ⟨x54, A55, h⟩ := h
  try dsimp only at h
  have HA55 := Lib.hid A55
  clear A55
  obtain ⟨hc, rfl⟩ := Lv.of_if h
  clear h
  obtain ⟨rfl, rfl, rfl, rfl, rfl, hnx43, hnx52, hnx54, rfl⟩ := hc
  have HNx43 := Lib.hid hnx43
  clear hnx43
  have HNx52 := Lib.hid hnx52
  clear hnx52
  have HNx54 := Lib.hid hnx54
  clear hnx54
  go_upto_region 8 with (fail)
  refine Fl.start [([],[]),([0],[0]),([],[]),([2,1],[2]),([],[]),([1,3,4,3],[1,3,4]),([5],[5]),([6],[6]),([6],[6]),([6],[6]),([],[]),([],[]),([10,7,5,0,1,2,3,4,5,6,7,10,11],[7,10]),([11,8,12,0,1,2,3,4,5,6,7,8,10,11,12],[8,11]),([9,13,0,1,2,3,4,5,6,7,8,9,10,11,12,13],[9])] [⟨10, 8, #[.slice none 0 0], 32⟩, ⟨11, 9, #[.slice none 0 0], 32⟩] 13 [.take 0, .take 2, .take 4, .one 1, .one 3, .one 5, .take 6, .take 7, .take 8, .take 9] [.one 12, .one 13, .take 14] (by kernel_rfl) (by kernel_rfl) (by decide) (by decide) (by kernel_rfl) (by kernel_rfl) (Fl.mkc ⟨_, rfl, rfl, fun _ => rfl, fun e w => by go_simp⟩ (Fl.mkc ⟨_, rfl, rfl, fun _ => rfl, fun e w => by go_simp⟩ Fl.mk0)) HI.out ?_
  refine Fl.take (some 33) (v := .agg #[.slice A0_0 l0_0.length c0_0]) rfl rfl (Fl.ld 1 rfl (by rfl) _ _ rfl rfl Try.underlying24 rfl (by kernel_rfl)) ?_
  simp only [Act.put, Fl.z1, Fl.z2, Fl.z3]
  refine Fl.take (some 35) (v := .agg #[.slice A1_0 l1_0.length c1_0]) rfl rfl (Fl.ld 0 rfl (by rfl) _ _ rfl rfl Try.underlying27 rfl (by kernel_rfl)) ?_
  simp only [Act.put, Fl.z1, Fl.z2, Fl.z3]
  refine Fl.take (some 37) (v := .int .i64 a2) rfl rfl (Or.inl ⟨by rfl, fun _ _ => by rfl⟩) ?_
  simp only [Act.put, Fl.z1, Fl.z2, Fl.z3]
  refine Fl.call (some 34) Try.func15 (by kernel_rfl) rfl #[.agg #[.slice A0_0 l0_0.length c0_0]] rfl rfl rfl (by rfl) rfl (fun E W hE hi => ?_)
  refine (laws_toMemory.calls k _ _ l0_0 x5 W (Kd.C_below HR0_0.out hi.bel) HC0_0.out HA6.out).mono ?_
  rintro e W' ⟨v, rfl, hr, hb⟩
  obtain ⟨Aq7, cq7, rfl⟩ := Kd.S_slice hr
  refine Fl.addS hi (Kd.S_mono hr (fun _ _ => trivial)) hb ?_
  clear hr
  clear hi hb hE
  simp only [Act.put, Fl.z1, Fl.z2, Fl.z3]
  refine Fl.call (some 36) Try.func16 (by kernel_rfl) rfl #[.agg #[.slice A1_0 l1_0.length c1_0]] rfl rfl rfl (by rfl) rfl (fun E W hE hi => ?_)
  refine (laws_toRope.calls k _ _ l1_0 x8 W (Kd.C_below HR1_0.out hi.bel) HC1_0.out HA9.out).mono ?_
  rintro e W' ⟨v, rfl, hr, hb⟩
  obtain ⟨Aq10, cq10, rfl⟩ := Kd.R_slice hr
  refine Fl.addR hi (Kd.R_mono hr (fun _ _ => trivial)) hb ?_
  clear hr
  clear hi hb hE
  simp only [Act.put, Fl.z1, Fl.z2, Fl.z3]
  refine Fl.call (some 38) Try.func23 (by kernel_rfl) rfl #[.agg #[.slice Aq7 x5.length cq7], .agg #[.slice Aq10 x8.length cq10], .int .i64 a2] rfl rfl rfl (by rfl) rfl (fun E W hE hi => ?_)
  refine (spec_SplitRope.calls k _ _ x5 _ _ x8 a2 x11 x12 x25 W (hi.cS 1 rfl) (hi.lS 1 rfl) (hi.cR 0 rfl) (hi.lR 0 rfl) HA14.out).mono ?_
  rintro e W' ⟨v1, v2, rfl, hr1, hr2, hb⟩
  obtain ⟨Aq15, cq15, rfl⟩ := Kd.R_slice hr1
  obtain ⟨Aq16, cq16, rfl⟩ := Kd.R_slice hr2
  refine Fl.addRR rfl hi hr1 hr2 hb ?_
  clear hr1 hr2
  clear hi hb hE
  simp only [Act.put, Fl.z1, Fl.z2, Fl.z3]
  refine Fl.take (some 32) (v := .tuple #[.agg #[.slice Aq15 x11.length cq15], .agg #[.slice Aq16 x12.length cq16], .bool x25]) rfl rfl (Or.inl ⟨by rfl, fun _ _ => by rfl⟩) ?_
  simp only [Act.put, Fl.z1, Fl.z2, Fl.z3]
  refine Fl.take (some 39) (v := .agg #[.slice Aq15 x11.length cq15]) rfl rfl (Or.inl ⟨by rfl, fun _ _ => by rfl⟩) ?_
  simp only [Act.put, Fl.z1, Fl.z2, Fl.z3]
  refine Fl.take (some 40) (v := .agg #[.slice Aq16 x12.length cq16]) rfl rfl (Or.inl ⟨by rfl, fun _ _ => by rfl⟩) ?_
  simp only [Act.put, Fl.z1, Fl.z2, Fl.z3]
  refine Fl.take (some 41) (v := .bool x25) rfl rfl (Or.inl ⟨by rfl, fun _ _ => by rfl⟩) ?_
  simp only [Act.put, Fl.z1, Fl.z2, Fl.z3]
  refine Fl.fin2 (fun b17 b18 => ?_)
  simp only [Act.put, Fl.z1, Fl.z2, Fl.z3]
  refine Fl.store 4 #[.slice Aq15 x11.length cq15] rfl rfl rfl rfl _ _ _ rfl rfl rfl (by rfl) rfl (by kernel_rfl) (by simp [Value.oneCell']) ?_
  refine Fl.store 5 #[.slice Aq16 x12.length cq16] rfl rfl rfl rfl _ _ _ rfl rfl rfl (by rfl) rfl (by kernel_rfl) (by simp [Value.oneCell']) ?_
  refine Fl.take (some 10) (v := .bool x25) rfl rfl (Or.inl ⟨by rfl, fun _ _ => by rfl⟩) ?_
  simp only [Act.put, Fl.z1, Fl.z2, Fl.z3]
  refine Fl.stopN (fun W hi => ?_)
  replace HI := Lib.hid hi
  clear hi
  try clear hn_
  go_upto_region 9 with (fail)
  refine Fl.startL [.take 0, .one 1, .one 2, .one 3] (by decide) HI.out ?_
  refine Fl.take (some 42) (v := .agg #[.slice A0_0 l0_0.length c0_0]) rfl rfl (Fl.ld 7 rfl (by rfl) _ _ rfl rfl Try.underlying24 rfl (by kernel_rfl)) ?_
  simp only [Act.put, Fl.z1, Fl.z2, Fl.z3]
  refine Fl.call (some 43) Try.func15 (by kernel_rfl) rfl #[.agg #[.slice A0_0 l0_0.length c0_0]] rfl rfl rfl (by rfl) rfl (fun E W hE hi => ?_)
  refine (laws_toMemory.calls k _ _ l0_0 x5 W (Kd.C_below HR0_0.out hi.bel) HC0_0.out HA6.out).mono ?_
  rintro e W' ⟨v, rfl, hr, hb⟩
  obtain ⟨Aq19, cq19, rfl⟩ := Kd.S_slice hr
  refine Fl.addS hi (Kd.S_mono hr (fun _ _ => trivial)) hb ?_
  clear hr
  clear hi hb hE
  simp only [Act.put, Fl.z1, Fl.z2, Fl.z3]
  refine Fl.var (N := 11) (cs := #[.slice none 0 0]) (t := 35) ⟨_, rfl, rfl, fun _ => rfl, fun e w => by go_simp⟩ (fun b20 => ?_)
  simp only [Act.put, Fl.z1, Fl.z2, Fl.z3]
  refine Fl.store 0 #[.slice Aq19 x5.length cq19] rfl rfl rfl rfl _ _ _ rfl rfl rfl (by rfl) rfl (by kernel_rfl) (by simp [Value.oneCell']) ?_
  refine Fl.stop (fun W hi => ?_)
  replace HI := Lib.hid hi
  clear hi
  try clear hn_
  go_upto_region 10 with (fail)
  refine Fl.startL [.take 0, .one 1, .one 2, .one 3] (by decide) HI.out ?_
  refine Fl.take (some 44) (v := .agg #[.slice A1_0 l1_0.length c1_0]) rfl rfl (Fl.ld 8 rfl (by rfl) _ _ rfl rfl Try.underlying27 rfl (by kernel_rfl)) ?_
  simp only [Act.put, Fl.z1, Fl.z2, Fl.z3]
  refine Fl.call (some 45) Try.func16 (by kernel_rfl) rfl #[.agg #[.slice A1_0 l1_0.length c1_0]] rfl rfl rfl (by rfl) rfl (fun E W hE hi => ?_)
  refine (laws_toRope.calls k _ _ l1_0 x8 W (Kd.C_below HR1_0.out hi.bel) HC1_0.out HA9.out).mono ?_
  rintro e W' ⟨v, rfl, hr, hb⟩
  obtain ⟨Aq21, cq21, rfl⟩ := Kd.R_slice hr
  refine Fl.addR hi (Kd.R_mono hr (fun _ _ => trivial)) hb ?_
  clear hr
  clear hi hb hE
  simp only [Act.put, Fl.z1, Fl.z2, Fl.z3]
  refine Fl.var (N := 12) (cs := #[.slice none 0 0]) (t := 32) ⟨_, rfl, rfl, fun _ => rfl, fun e w => by go_simp⟩ (fun b22 => ?_)
  simp only [Act.put, Fl.z1, Fl.z2, Fl.z3]
  refine Fl.store 0 #[.slice Aq21 x8.length cq21] rfl rfl rfl rfl _ _ _ rfl rfl rfl (by rfl) rfl (by kernel_rfl) (by simp [Value.oneCell']) ?_
  refine Fl.stop (fun W hi => ?_)
  replace HI := Lib.hid hi
  clear hi
  try clear hn_
  go_upto_region 11 with (fail)
  refine Fl.startL [.take 0, .take 1, .take 2, .one 3, .take 4, .take 5, .take 6, .take 7, .one 8, .one 9, .one 10, .one 11, .take 12] (by decide) HI.out ?_
  refine Fl.take (some 47) (v := .agg #[.slice Aq19 x5.length cq19]) rfl rfl (Fl.ld 2 rfl (by rfl) _ _ rfl rfl Try.underlying35 rfl (by kernel_rfl)) ?_
  simp only [Act.put, Fl.z1, Fl.z2, Fl.z3]
  refine Fl.take (some 48) (v := .agg #[.slice Aq21 x8.length cq21]) rfl rfl (Fl.ld 0 rfl (by rfl) _ _ rfl rfl Try.underlying32 rfl (by kernel_rfl)) ?_
  simp only [Act.put, Fl.z1, Fl.z2, Fl.z3]
  refine Fl.take (some 49) (v := .int .i64 a2) rfl rfl (Or.inl ⟨by rfl, fun _ _ => by rfl⟩) ?_
  simp only [Act.put, Fl.z1, Fl.z2, Fl.z3]
  refine Fl.call (some 50) Try.func24 (by kernel_rfl) rfl #[.agg #[.slice Aq19 x5.length cq19], .agg #[.slice Aq21 x8.length cq21], .int .i64 a2] rfl rfl rfl (by rfl) rfl (fun E W hE hi => ?_)
  refine (impl_SplitRope.calls k _ _ x5 _ _ x8 a2 x23 x24 x25 W ((hE _ (Fl.inv_drop hi)).cS 3 rfl) ((hE _ (Fl.inv_drop hi)).lS 3 rfl) ((hE _ (Fl.inv_drop hi)).cR 1 rfl) ((hE _ (Fl.inv_drop hi)).lR 1 rfl) HA26.out).mono ?_
  rintro e W' ⟨v1, v2, rfl, hr1, hr2, hb⟩
  obtain ⟨Aq27, cq27, rfl⟩ := Kd.R_slice hr1
  obtain ⟨Aq28, cq28, rfl⟩ := Kd.R_slice hr2
  refine Fl.addRR rfl hi hr1 hr2 hb ?_
  clear hr1 hr2
  clear hi hb hE
  simp only [Act.put, Fl.z1, Fl.z2, Fl.z3]
  refine Fl.take (some 46) (v := .tuple #[.agg #[.slice Aq27 x23.length cq27], .agg #[.slice Aq28 x24.length cq28], .bool x25]) rfl rfl (Or.inl ⟨by rfl, fun _ _ => by rfl⟩) ?_
  simp only [Act.put, Fl.z1, Fl.z2, Fl.z3]
  refine Fl.take (some 51) (v := .agg #[.slice Aq27 x23.length cq27]) rfl rfl (Or.inl ⟨by rfl, fun _ _ => by rfl⟩) ?_
  simp only [Act.put, Fl.z1, Fl.z2, Fl.z3]
  refine Fl.take (some 52) (v := .agg #[.slice Aq28 x24.length cq28]) rfl rfl (Or.inl ⟨by rfl, fun _ _ => by rfl⟩) ?_
  simp only [Act.put, Fl.z1, Fl.z2, Fl.z3]
  refine Fl.take (some 53) (v := .bool x25) rfl rfl (Or.inl ⟨by rfl, fun _ _ => by rfl⟩) ?_
  simp only [Act.put, Fl.z1, Fl.z2, Fl.z3]
  refine Fl.var (N := 13) (cs := #[.slice none 0 0]) (t := 32) ⟨_, rfl, rfl, fun _ => rfl, fun e w => by go_simp⟩ (fun b29 => ?_)
  simp only [Act.put, Fl.z1, Fl.z2, Fl.z3]
  refine Fl.var (N := 14) (cs := #[.slice none 0 0]) (t := 32) ⟨_, rfl, rfl, fun _ => rfl, fun e w => by go_simp⟩ (fun b30 => ?_)
  simp only [Act.put, Fl.z1, Fl.z2, Fl.z3]
  refine Fl.store 1 #[.slice Aq27 x23.length cq27] rfl rfl rfl rfl _ _ _ rfl rfl rfl (by rfl) rfl (by kernel_rfl) (by simp [Value.oneCell']) ?_
  refine Fl.store 0 #[.slice Aq28 x24.length cq28] rfl rfl rfl rfl _ _ _ rfl rfl rfl (by rfl) rfl (by kernel_rfl) (by simp [Value.oneCell']) ?_
  refine Fl.take (some 15) (v := .bool x25) rfl rfl (Or.inl ⟨by rfl, fun _ _ => by rfl⟩) ?_
  simp only [Act.put, Fl.z1, Fl.z2, Fl.z3]
  refine Fl.stop (fun W hi => ?_)
  replace HI := Lib.hid hi
  clear hi
  try clear hn_
  go_upto_region 12 with (fail)
  refine Fl.startL [.take 0, .take 1, .one 2, .take 3, .take 4, .take 5, .take 6, .one 7, .take 8, .take 9, .take 10, .take 11, .take 12, .take 13, .take 14] (by decide) HI.out ?_
  refine Fl.take (some 54) (v := .agg #[.slice Aq27 x23.length cq27]) rfl rfl (Fl.ld 1 rfl (by rfl) _ _ rfl rfl Try.underlying32 rfl (by kernel_rfl)) ?_
  simp only [Act.put, Fl.z1, Fl.z2, Fl.z3]
  refine Fl.take (some 55) (v := .agg #[.slice Aq15 x11.length cq15]) rfl rfl (Fl.ld 12 rfl (by rfl) _ _ rfl rfl Try.underlying32 rfl (by kernel_rfl)) ?_
  simp only [Act.put, Fl.z1, Fl.z2, Fl.z3]
  refine Fl.call (some 56) Try.func18 (by kernel_rfl) rfl #[.agg #[.slice Aq27 x23.length cq27], .agg #[.slice Aq15 x11.length cq15]] rfl rfl rfl (by rfl) rfl (fun E W hE hi => ?_)
  refine (laws_eqRope.calls k _ _ x23 _ _ x11 true W ((hE _ (Fl.inv_drop hi)).cR 2 rfl) ((hE _ (Fl.inv_drop hi)).lR 2 rfl) ((hE _ (Fl.inv_drop hi)).cR 8 rfl) ((hE _ (Fl.inv_drop hi)).lR 8 rfl) HA32.out).mono ?_
  rintro e W' ⟨rfl, hb⟩
  refine Fl.keep hi hb ?_
  clear hi hb hE
  simp only [Act.put, Fl.z1, Fl.z2, Fl.z3]
  refine Fl.take (some 57) (v := .bool false) rfl rfl (Or.inl ⟨by rfl, fun _ _ => by rfl⟩) ?_
  simp only [Act.put, Fl.z1, Fl.z2, Fl.z3]
  refine Fl.take (some 58) (v := .bool false) rfl rfl (Or.inl ⟨by rfl, fun _ _ => by rfl⟩) ?_
  simp only [Act.put, Fl.z1, Fl.z2, Fl.z3]
  refine Fl.take (some 59) (v := .agg #[.slice Aq28 x24.length cq28]) rfl rfl (Fl.ld 0 rfl (by rfl) _ _ rfl rfl Try.underlying32 rfl (by kernel_rfl)) ?_
  simp only [Act.put, Fl.z1, Fl.z2, Fl.z3]
  refine Fl.take (some 60) (v := .agg #[.slice Aq16 x12.length cq16]) rfl rfl (Fl.ld 13 rfl (by rfl) _ _ rfl rfl Try.underlying32 rfl (by kernel_rfl)) ?_
  simp only [Act.put, Fl.z1, Fl.z2, Fl.z3]
  refine Fl.call (some 61) Try.func18 (by kernel_rfl) rfl #[.agg #[.slice Aq28 x24.length cq28], .agg #[.slice Aq16 x12.length cq16]] rfl rfl rfl (by rfl) rfl (fun E W hE hi => ?_)
  refine (laws_eqRope.calls k _ _ x24 _ _ x12 true W ((hE _ (Fl.inv_drop hi)).cR 3 rfl) ((hE _ (Fl.inv_drop hi)).lR 3 rfl) ((hE _ (Fl.inv_drop hi)).cR 9 rfl) ((hE _ (Fl.inv_drop hi)).lR 9 rfl) HA34.out).mono ?_
  rintro e W' ⟨rfl, hb⟩
  refine Fl.keep hi hb ?_
  clear hi hb hE
  simp only [Act.put, Fl.z1, Fl.z2, Fl.z3]
  refine Fl.take (some 62) (v := .bool false) rfl rfl (Or.inl ⟨by rfl, fun _ _ => by rfl⟩) ?_
  simp only [Act.put, Fl.z1, Fl.z2, Fl.z3]
  refine Fl.take (some 63) (v := .bool false) rfl rfl (Or.inl ⟨by rfl, fun _ _ => by rfl⟩) ?_
  simp only [Act.put, Fl.z1, Fl.z2, Fl.z3]
  refine Fl.take (some 64) (v := .bool false) rfl rfl (Or.inl ⟨by rfl, fun _ _ => by rfl⟩) ?_
  simp only [Act.put, Fl.z1, Fl.z2, Fl.z3]
  refine Fl.take (some 65) (v := .bool x25) rfl rfl (Or.inl ⟨by rfl, fun _ _ => by rfl⟩) ?_
  simp only [Act.put, Fl.z1, Fl.z2, Fl.z3]
  refine Fl.take (some 66) (v := .bool x25) rfl rfl (Or.inl ⟨by rfl, fun _ _ => by rfl⟩) ?_
  simp only [Act.put, Fl.z1, Fl.z2, Fl.z3]
  refine Fl.take (some 67) (v := .bool false) rfl rfl (Or.inl ⟨by rfl, fun _ _ => by go_simp⟩) ?_
  simp only [Act.put, Fl.z1, Fl.z2, Fl.z3]
  refine Fl.take (some 68) (v := .bool false) rfl rfl (Or.inl ⟨by rfl, fun _ _ => by rfl⟩) ?_
  simp only [Act.put, Fl.z1, Fl.z2, Fl.z3]
  refine Fl.stop (fun W hi => ?_)
  replace HI := Lib.hid hi
  clear hi
  try clear hn_
  go_upto_region 14 with (fail)
  refine Fl.start [([],[]),([],[]),([1],[1]),([0,2,2],[0,2]),([3],[3])] [] 6 [.take 0, .take 1, .one 2, .one 3, .take 4] [] (by kernel_rfl) (by kernel_rfl) (by decide) (by decide) (by kernel_rfl) (by kernel_rfl) Fl.mk0 HI.out ?_
  refine Fl.take (some 69) (v := .agg #[.slice Aq19 x5.length cq19]) rfl rfl (Fl.ld 6 rfl (by rfl) _ _ rfl rfl Try.underlying35 rfl (by kernel_rfl)) ?_
  simp only [Act.put, Fl.z1, Fl.z2, Fl.z3]
  refine Fl.take (some 70) (v := .agg #[.slice A0_0 l0_0.length c0_0]) rfl rfl (Fl.ld 15 rfl (by rfl) _ _ rfl rfl Try.underlying24 rfl (by kernel_rfl)) ?_
  simp only [Act.put, Fl.z1, Fl.z2, Fl.z3]
  refine Fl.call (some 71) Try.func15 (by kernel_rfl) rfl #[.agg #[.slice A0_0 l0_0.length c0_0]] rfl rfl rfl (by rfl) rfl (fun E W hE hi => ?_)
  refine (laws_toMemory.calls k _ _ l0_0 x5 W (Kd.C_below HR0_0.out hi.bel) HC0_0.out HA6.out).mono ?_
  rintro e W' ⟨v, rfl, hr, hb⟩
  obtain ⟨Aq35, cq35, rfl⟩ := Kd.S_slice hr
  refine Fl.addS hi (Kd.S_mono hr (fun _ _ => trivial)) hb ?_
  clear hr
  clear hi hb hE
  simp only [Act.put, Fl.z1, Fl.z2, Fl.z3]
  refine Fl.call (some 72) Try.func19 (by kernel_rfl) rfl #[.agg #[.slice Aq19 x5.length cq19], .agg #[.slice Aq35 x5.length cq35]] rfl rfl rfl (by rfl) rfl (fun E W hE hi => ?_)
  refine (laws_eqMemory.calls k _ _ x5 _ _ x5 true W ((hE _ (Fl.inv_drop hi)).cS 7 rfl) ((hE _ (Fl.inv_drop hi)).lS 7 rfl) (hi.cS 0 rfl) (hi.lS 0 rfl) HA37.out).mono ?_
  rintro e W' ⟨rfl, hb⟩
  refine Fl.keep hi hb ?_
  clear hi hb hE
  simp only [Act.put, Fl.z1, Fl.z2, Fl.z3]
  refine Fl.take (some 73) (v := .bool false) rfl rfl (Or.inl ⟨by rfl, fun _ _ => by rfl⟩) ?_
  simp only [Act.put, Fl.z1, Fl.z2, Fl.z3]
  refine Fl.fin0 ?_
  refine Fl.stopN (fun W hi => ?_)
  replace HI := Lib.hid hi
  clear hi
  try clear hn_
  go_upto_region 16 with (fail)
  refine Fl.start [([],[]),([],[]),([1],[1]),([0,2,2],[0,2]),([3],[3])] [] 6 [.take 0, .take 1, .one 2, .one 3, .take 4] [] (by kernel_rfl) (by kernel_rfl) (by decide) (by decide) (by kernel_rfl) (by kernel_rfl) Fl.mk0 HI.out ?_
  refine Fl.take (some 74) (v := .agg #[.slice Aq21 x8.length cq21]) rfl rfl (Fl.ld 5 rfl (by rfl) _ _ rfl rfl Try.underlying32 rfl (by kernel_rfl)) ?_
  simp only [Act.put, Fl.z1, Fl.z2, Fl.z3]
  refine Fl.take (some 75) (v := .agg #[.slice A1_0 l1_0.length c1_0]) rfl rfl (Fl.ld 15 rfl (by rfl) _ _ rfl rfl Try.underlying27 rfl (by kernel_rfl)) ?_
  simp only [Act.put, Fl.z1, Fl.z2, Fl.z3]
  refine Fl.call (some 76) Try.func16 (by kernel_rfl) rfl #[.agg #[.slice A1_0 l1_0.length c1_0]] rfl rfl rfl (by rfl) rfl (fun E W hE hi => ?_)
  refine (laws_toRope.calls k _ _ l1_0 x8 W (Kd.C_below HR1_0.out hi.bel) HC1_0.out HA9.out).mono ?_
  rintro e W' ⟨v, rfl, hr, hb⟩
  obtain ⟨Aq38, cq38, rfl⟩ := Kd.R_slice hr
  refine Fl.addR hi (Kd.R_mono hr (fun _ _ => trivial)) hb ?_
  clear hr
  clear hi hb hE
  simp only [Act.put, Fl.z1, Fl.z2, Fl.z3]
  refine Fl.call (some 77) Try.func18 (by kernel_rfl) rfl #[.agg #[.slice Aq21 x8.length cq21], .agg #[.slice Aq38 x8.length cq38]] rfl rfl rfl (by rfl) rfl (fun E W hE hi => ?_)
  refine (laws_eqRope.calls k _ _ x8 _ _ x8 true W ((hE _ (Fl.inv_drop hi)).cR 6 rfl) ((hE _ (Fl.inv_drop hi)).lR 6 rfl) (hi.cR 0 rfl) (hi.lR 0 rfl) HA40.out).mono ?_
  rintro e W' ⟨rfl, hb⟩
  refine Fl.keep hi hb ?_
  clear hi hb hE
  simp only [Act.put, Fl.z1, Fl.z2, Fl.z3]
  refine Fl.take (some 78) (v := .bool false) rfl rfl (Or.inl ⟨by rfl, fun _ _ => by rfl⟩) ?_
  simp only [Act.put, Fl.z1, Fl.z2, Fl.z3]
  refine Fl.fin0 ?_
  refine Fl.stopN (fun W hi => ?_)
  replace HI := Lib.hid hi
  clear hi
  try clear hn_
  go_upto_region 19 with (fail)
  refine Fl.startW [.one 0, .take 1, .one 2, .take 3] (by decide) HI.out ?_
  refine Fl.ldF (some 79) 8 rfl rfl rfl (by rfl) _ _ rfl rfl Try.underlying35 rfl (by kernel_rfl) ?_
  simp only [Act.put, Fl.z1, Fl.z2, Fl.z3]
  refine Fl.take (some 80) (v := .int .i64 1) rfl rfl (Or.inl ⟨by rfl, fun _ _ => by rfl⟩) ?_
  simp only [Act.put, Fl.z1, Fl.z2, Fl.z3]
  refine Fl.call (some 81) Try.func20 (by kernel_rfl) rfl #[.agg #[.slice Aq19 x5.length cq19], .int .i64 1] rfl rfl rfl (by rfl) rfl (fun E W hE hi => ?_)
  refine Fl.markS 9 rfl hi (fun S hS => laws_markMemory.calls k S _ _ _ _ _ _ hi.bel hS HA42.out) ?_
  clear hi hE
  simp only [Act.put, Fl.z1, Fl.z2, Fl.z3]
  refine Fl.take (some 16) (v := .int .i64 x41) rfl rfl (Or.inl ⟨by rfl, fun _ _ => by rfl⟩) ?_
  simp only [Act.put, Fl.z1, Fl.z2, Fl.z3]
  refine Fl.stopW (fun W hi => ?_)
  replace HI := Lib.hid hi
  clear hi
  try clear hn_
  go_upto_region 20 with (fail)
  refine Fl.startW [.one 0, .take 1, .one 2, .take 3] (by decide) HI.out ?_
  refine Fl.ldF (some 82) 6 rfl rfl rfl (by rfl) _ _ rfl rfl Try.underlying32 rfl (by kernel_rfl) ?_
  simp only [Act.put, Fl.z1, Fl.z2, Fl.z3]
  refine Fl.take (some 83) (v := .int .i64 x41) rfl rfl (Or.inl ⟨by rfl, fun _ _ => by rfl⟩) ?_
  simp only [Act.put, Fl.z1, Fl.z2, Fl.z3]
  refine Fl.call (some 84) Try.func21 (by kernel_rfl) rfl #[.agg #[.slice Aq21 x8.length cq21], .int .i64 x41] rfl rfl rfl (by rfl) rfl (fun E W hE hi => ?_)
  refine Fl.markR 7 rfl hi rfl (fun S hS => laws_markRope.calls k S _ _ _ _ _ _ _ hi.bel hS HA45.out) ?_
  clear hi hE
  simp only [Act.put, Fl.z1, Fl.z2, Fl.z3]
  refine Fl.take (some 16) (v := .int .i64 x43) rfl rfl (Or.inl ⟨by rfl, fun _ _ => by rfl⟩) ?_
  simp only [Act.put, Fl.z1, Fl.z2, Fl.z3]
  refine Fl.stopW (fun W hi => ?_)
  replace HI := Lib.hid hi
  clear hi
  try clear hn_
  go_upto_region 21 with (fail)
  refine Fl.startL [.take 0, .take 1, .take 2, .take 3, .take 4, .one 5, .take 6, .take 7, .take 8, .take 9, .take 10, .one 11, .take 12, .take 13, .take 14, .take 15, .take 16, .take 17, .take 18] (by decide) HI.out ?_
  refine Fl.take (some 85) (v := .int .i64 x43) rfl rfl (Or.inl ⟨by rfl, fun _ _ => by rfl⟩) ?_
  simp only [Act.put, Fl.z1, Fl.z2, Fl.z3]
  refine Fl.take (some 86) (v := .bool false) rfl rfl (Or.inl ⟨by rfl, fun _ _ => by have h_ := decide_eq_false HNx43.out; go_simp⟩) ?_
  simp only [Act.put, Fl.z1, Fl.z2, Fl.z3]
  refine Fl.take (some 87) (v := .bool false) rfl rfl (Or.inl ⟨by rfl, fun _ _ => by rfl⟩) ?_
  simp only [Act.put, Fl.z1, Fl.z2, Fl.z3]
  refine Fl.take (some 88) (v := .agg #[.slice Aq27 x23.length cq27]) rfl rfl (Fl.ld 3 rfl (by rfl) _ _ rfl rfl Try.underlying32 rfl (by kernel_rfl)) ?_
  simp only [Act.put, Fl.z1, Fl.z2, Fl.z3]
  refine Fl.take (some 89) (v := .agg #[.slice Aq15 x11.length cq15]) rfl rfl (Fl.ld 14 rfl (by rfl) _ _ rfl rfl Try.underlying32 rfl (by kernel_rfl)) ?_
  simp only [Act.put, Fl.z1, Fl.z2, Fl.z3]
  refine Fl.call (some 90) Try.func18 (by kernel_rfl) rfl #[.agg #[.slice Aq27 x23.length cq27], .agg #[.slice Aq15 x11.length cq15]] rfl rfl rfl (by rfl) rfl (fun E W hE hi => ?_)
  refine (laws_eqRope.calls k _ _ x23 _ _ x11 true W ((hE _ (Fl.inv_drop hi)).cR 4 rfl) ((hE _ (Fl.inv_drop hi)).lR 4 rfl) ((hE _ (Fl.inv_drop hi)).cR 10 rfl) ((hE _ (Fl.inv_drop hi)).lR 10 rfl) HA32.out).mono ?_
  rintro e W' ⟨rfl, hb⟩
  refine Fl.keep hi hb ?_
  clear hi hb hE
  simp only [Act.put, Fl.z1, Fl.z2, Fl.z3]
  refine Fl.take (some 91) (v := .bool false) rfl rfl (Or.inl ⟨by rfl, fun _ _ => by rfl⟩) ?_
  simp only [Act.put, Fl.z1, Fl.z2, Fl.z3]
  refine Fl.take (some 92) (v := .bool false) rfl rfl (Or.inl ⟨by rfl, fun _ _ => by rfl⟩) ?_
  simp only [Act.put, Fl.z1, Fl.z2, Fl.z3]
  refine Fl.take (some 93) (v := .bool false) rfl rfl (Or.inl ⟨by rfl, fun _ _ => by rfl⟩) ?_
  simp only [Act.put, Fl.z1, Fl.z2, Fl.z3]
  refine Fl.take (some 94) (v := .agg #[.slice Aq28 x24.length cq28]) rfl rfl (Fl.ld 2 rfl (by rfl) _ _ rfl rfl Try.underlying32 rfl (by kernel_rfl)) ?_
  simp only [Act.put, Fl.z1, Fl.z2, Fl.z3]
  refine Fl.take (some 95) (v := .agg #[.slice Aq16 x12.length cq16]) rfl rfl (Fl.ld 15 rfl (by rfl) _ _ rfl rfl Try.underlying32 rfl (by kernel_rfl)) ?_
  simp only [Act.put, Fl.z1, Fl.z2, Fl.z3]
  refine Fl.call (some 96) Try.func18 (by kernel_rfl) rfl #[.agg #[.slice Aq28 x24.length cq28], .agg #[.slice Aq16 x12.length cq16]] rfl rfl rfl (by rfl) rfl (fun E W hE hi => ?_)
  refine (laws_eqRope.calls k _ _ x24 _ _ x12 true W ((hE _ (Fl.inv_drop hi)).cR 5 rfl) ((hE _ (Fl.inv_drop hi)).lR 5 rfl) ((hE _ (Fl.inv_drop hi)).cR 11 rfl) ((hE _ (Fl.inv_drop hi)).lR 11 rfl) HA34.out).mono ?_
  rintro e W' ⟨rfl, hb⟩
  refine Fl.keep hi hb ?_
  clear hi hb hE
  simp only [Act.put, Fl.z1, Fl.z2, Fl.z3]
  refine Fl.take (some 97) (v := .bool false) rfl rfl (Or.inl ⟨by rfl, fun _ _ => by rfl⟩) ?_
  simp only [Act.put, Fl.z1, Fl.z2, Fl.z3]
  refine Fl.take (some 98) (v := .bool false) rfl rfl (Or.inl ⟨by rfl, fun _ _ => by rfl⟩) ?_
  simp only [Act.put, Fl.z1, Fl.z2, Fl.z3]
  refine Fl.take (some 99) (v := .bool false) rfl rfl (Or.inl ⟨by rfl, fun _ _ => by rfl⟩) ?_
  simp only [Act.put, Fl.z1, Fl.z2, Fl.z3]
  refine Fl.take (some 100) (v := .bool x25) rfl rfl (Or.inl ⟨by rfl, fun _ _ => by rfl⟩) ?_
  simp only [Act.put, Fl.z1, Fl.z2, Fl.z3]
  refine Fl.take (some 101) (v := .bool x25) rfl rfl (Or.inl ⟨by rfl, fun _ _ => by rfl⟩) ?_
  simp only [Act.put, Fl.z1, Fl.z2, Fl.z3]
  refine Fl.take (some 102) (v := .bool false) rfl rfl (Or.inl ⟨by rfl, fun _ _ => by go_simp⟩) ?_
  simp only [Act.put, Fl.z1, Fl.z2, Fl.z3]
  refine Fl.take (some 103) (v := .bool false) rfl rfl (Or.inl ⟨by rfl, fun _ _ => by rfl⟩) ?_
  simp only [Act.put, Fl.z1, Fl.z2, Fl.z3]
  refine Fl.stop (fun W hi => ?_)
  replace HI := Lib.hid hi
  clear hi
  try clear hn_
  go_upto_region 24 with (fail)
  refine Fl.startW [.one 0, .take 1, .one 2, .take 3] (by decide) HI.out ?_
  refine Fl.ldF (some 104) 3 rfl rfl rfl (by rfl) _ _ rfl rfl Try.underlying32 rfl (by kernel_rfl) ?_
  simp only [Act.put, Fl.z1, Fl.z2, Fl.z3]
  refine Fl.take (some 105) (v := .int .i64 1) rfl rfl (Or.inl ⟨by rfl, fun _ _ => by rfl⟩) ?_
  simp only [Act.put, Fl.z1, Fl.z2, Fl.z3]
  refine Fl.call (some 106) Try.func21 (by kernel_rfl) rfl #[.agg #[.slice Aq27 x23.length cq27], .int .i64 1] rfl rfl rfl (by rfl) rfl (fun E W hE hi => ?_)
  refine Fl.markR 4 rfl hi rfl (fun S hS => laws_markRope.calls k S _ _ _ _ _ _ _ hi.bel hS HA48.out) ?_
  clear hi hE
  simp only [Act.put, Fl.z1, Fl.z2, Fl.z3]
  refine Fl.take (some 17) (v := .int .i64 x46) rfl rfl (Or.inl ⟨by rfl, fun _ _ => by rfl⟩) ?_
  simp only [Act.put, Fl.z1, Fl.z2, Fl.z3]
  refine Fl.stopW (fun W hi => ?_)
  replace HI := Lib.hid hi
  clear hi
  try clear hn_
  go_upto_region 25 with (fail)
  refine Fl.startW [.one 0, .take 1, .one 2, .take 3] (by decide) HI.out ?_
  refine Fl.ldF (some 107) 2 rfl rfl rfl (by rfl) _ _ rfl rfl Try.underlying32 rfl (by kernel_rfl) ?_
  simp only [Act.put, Fl.z1, Fl.z2, Fl.z3]
  refine Fl.take (some 108) (v := .int .i64 x46) rfl rfl (Or.inl ⟨by rfl, fun _ _ => by rfl⟩) ?_
  simp only [Act.put, Fl.z1, Fl.z2, Fl.z3]
  refine Fl.call (some 109) Try.func21 (by kernel_rfl) rfl #[.agg #[.slice Aq28 x24.length cq28], .int .i64 x46] rfl rfl rfl (by rfl) rfl (fun E W hE hi => ?_)
  refine Fl.markR 5 rfl hi rfl (fun S hS => laws_markRope.calls k S _ _ _ _ _ _ _ hi.bel hS HA51.out) ?_
  clear hi hE
  simp only [Act.put, Fl.z1, Fl.z2, Fl.z3]
  refine Fl.take (some 17) (v := .int .i64 x54) rfl rfl (Or.inl ⟨by rfl, fun _ _ => by rfl⟩) ?_
  simp only [Act.put, Fl.z1, Fl.z2, Fl.z3]
  refine Fl.stopW (fun W hi => ?_)
  replace HI := Lib.hid hi
  clear hi
  try clear hn_
  go_upto_region 27 with (fail)
  refine Fl.startL [.take 0, .take 1, .one 2, .take 3] (by decide) HI.out ?_
  refine Fl.take (some 110) (v := .agg #[.slice Aq27 x23.length cq27]) rfl rfl (Fl.ld 3 rfl (by rfl) _ _ rfl rfl Try.underlying32 rfl (by kernel_rfl)) ?_
  simp only [Act.put, Fl.z1, Fl.z2, Fl.z3]
  refine Fl.take (some 111) (v := .int .i64 1) rfl rfl (Or.inl ⟨by rfl, fun _ _ => by rfl⟩) ?_
  simp only [Act.put, Fl.z1, Fl.z2, Fl.z3]
  refine Fl.call (some 112) Try.func22 (by kernel_rfl) rfl #[.agg #[.slice Aq27 x23.length cq27], .int .i64 1] rfl rfl rfl (by rfl) rfl (fun E W hE hi => ?_)
  have hl_ := ((hE _ (Fl.inv_drop hi)).reads 4 rfl).1
  have hc_ := laws_heldRope.calls k _ _ x47 1 x52 W ((hE _ (Fl.inv_drop hi)).reads 4 rfl).2.2 (hl_ ▸ ((hE _ (Fl.inv_drop hi)).reads 4 rfl).2.1) HA53.out
  rw [← hl_] at hc_
  refine hc_.mono ?_
  clear hc_ hl_
  rintro e W' ⟨rfl, hb⟩
  refine Fl.keep hi hb ?_
  clear hi hb hE
  simp only [Act.put, Fl.z1, Fl.z2, Fl.z3]
  refine Fl.take (some 18) (v := .int .i64 x52) rfl rfl (Or.inl ⟨by rfl, fun _ _ => by rfl⟩) ?_
  simp only [Act.put, Fl.z1, Fl.z2, Fl.z3]
  refine Fl.stop (fun W hi => ?_)
  replace HI := Lib.hid hi
  clear hi
  try clear hn_
  have hn_ := decide_eq_false HNx52.out
  go_upto_region 30 with (fail)
  refine Fl.startL [.take 0, .take 1, .one 2, .take 3] (by decide) HI.out ?_
  refine Fl.take (some 115) (v := .agg #[.slice Aq28 x24.length cq28]) rfl rfl (Fl.ld 2 rfl (by rfl) _ _ rfl rfl Try.underlying32 rfl (by kernel_rfl)) ?_
  simp only [Act.put, Fl.z1, Fl.z2, Fl.z3]
  refine Fl.take (some 116) (v := .int .i64 x52) rfl rfl (Or.inl ⟨by rfl, fun _ _ => by rfl⟩) ?_
  simp only [Act.put, Fl.z1, Fl.z2, Fl.z3]
  refine Fl.call (some 117) Try.func22 (by kernel_rfl) rfl #[.agg #[.slice Aq28 x24.length cq28], .int .i64 x52] rfl rfl rfl (by rfl) rfl (fun E W hE hi => ?_)
  have hl_ := ((hE _ (Fl.inv_drop hi)).reads 5 rfl).1
  have hc_ := laws_heldRope.calls k _ _ x50 x52 x54 W ((hE _ (Fl.inv_drop hi)).reads 5 rfl).2.2 (hl_ ▸ ((hE _ (Fl.inv_drop hi)).reads 5 rfl).2.1) HA55.out
  rw [← hl_] at hc_
  refine hc_.mono ?_
  clear hc_ hl_
  rintro e W' ⟨rfl, hb⟩
  refine Fl.keep hi hb ?_
  clear hi hb hE
  simp only [Act.put, Fl.z1, Fl.z2, Fl.z3]
  refine Fl.take (some 18) (v := .int .i64 x54) rfl rfl (Or.inl ⟨by rfl, fun _ _ => by rfl⟩) ?_
  simp only [Act.put, Fl.z1, Fl.z2, Fl.z3]
  refine Fl.stop (fun W hi => ?_)
  replace HI := Lib.hid hi
  clear hi
  try clear hn_
  have hn_ := decide_eq_false HNx54.out
  go_upto_region 35 with (fail)
  refine Fl.start [([],[]),([0],[0]),([],[]),([2,1],[2]),([],[]),([1,3,4,3],[1,3,4]),([5],[5]),([6],[6]),([6],[6]),([6],[6]),([],[]),([],[]),([10,7,5,0,1,2,3,4,5,6,7,10,11],[7,10]),([11,8,12,0,1,2,3,4,5,6,7,8,10,11,12],[8,11]),([9,13,0,1,2,3,4,5,6,7,8,9,10,11,12,13],[9])] [⟨10, 19, #[.slice none 0 0], 32⟩, ⟨11, 20, #[.slice none 0 0], 32⟩] 13 [.take 0, .take 2, .take 4, .one 1, .one 3, .one 5, .take 6, .take 7, .take 8, .take 9] [.one 12, .one 13, .take 14] (by kernel_rfl) (by kernel_rfl) (by decide) (by decide) (by kernel_rfl) (by kernel_rfl) (Fl.mkc ⟨_, rfl, rfl, fun _ => rfl, fun e w => by go_simp⟩ (Fl.mkc ⟨_, rfl, rfl, fun _ => rfl, fun e w => by go_simp⟩ Fl.mk0)) HI.out ?_
  refine Fl.take (some 124) (v := .agg #[.slice A0_0 l0_0.length c0_0]) rfl rfl (Fl.ld 17 rfl (by rfl) _ _ rfl rfl Try.underlying24 rfl (by kernel_rfl)) ?_
  simp only [Act.put, Fl.z1, Fl.z2, Fl.z3]
  refine Fl.take (some 126) (v := .agg #[.slice A1_0 l1_0.length c1_0]) rfl rfl (Fl.ld 16 rfl (by rfl) _ _ rfl rfl Try.underlying27 rfl (by kernel_rfl)) ?_
  simp only [Act.put, Fl.z1, Fl.z2, Fl.z3]
  refine Fl.take (some 128) (v := .int .i64 a2) rfl rfl (Or.inl ⟨by rfl, fun _ _ => by rfl⟩) ?_
  simp only [Act.put, Fl.z1, Fl.z2, Fl.z3]
  refine Fl.call (some 125) Try.func15 (by kernel_rfl) rfl #[.agg #[.slice A0_0 l0_0.length c0_0]] rfl rfl rfl (by rfl) rfl (fun E W hE hi => ?_)
  refine (laws_toMemory.calls k _ _ l0_0 x5 W (Kd.C_below HR0_0.out hi.bel) HC0_0.out HA6.out).mono ?_
  rintro e W' ⟨v, rfl, hr, hb⟩
  obtain ⟨Aq56, cq56, rfl⟩ := Kd.S_slice hr
  refine Fl.addS hi (Kd.S_mono hr (fun _ _ => trivial)) hb ?_
  clear hr
  clear hi hb hE
  simp only [Act.put, Fl.z1, Fl.z2, Fl.z3]
  refine Fl.call (some 127) Try.func16 (by kernel_rfl) rfl #[.agg #[.slice A1_0 l1_0.length c1_0]] rfl rfl rfl (by rfl) rfl (fun E W hE hi => ?_)
  refine (laws_toRope.calls k _ _ l1_0 x8 W (Kd.C_below HR1_0.out hi.bel) HC1_0.out HA9.out).mono ?_
  rintro e W' ⟨v, rfl, hr, hb⟩
  obtain ⟨Aq57, cq57, rfl⟩ := Kd.R_slice hr
  refine Fl.addR hi (Kd.R_mono hr (fun _ _ => trivial)) hb ?_
  clear hr
  clear hi hb hE
  simp only [Act.put, Fl.z1, Fl.z2, Fl.z3]
  refine Fl.call (some 129) Try.func24 (by kernel_rfl) rfl #[.agg #[.slice Aq56 x5.length cq56], .agg #[.slice Aq57 x8.length cq57], .int .i64 a2] rfl rfl rfl (by rfl) rfl (fun E W hE hi => ?_)
  refine (impl_SplitRope.calls k _ _ x5 _ _ x8 a2 x23 x24 x25 W (hi.cS 1 rfl) (hi.lS 1 rfl) (hi.cR 0 rfl) (hi.lR 0 rfl) HA26.out).mono ?_
  rintro e W' ⟨v1, v2, rfl, hr1, hr2, hb⟩
  obtain ⟨Aq58, cq58, rfl⟩ := Kd.R_slice hr1
  obtain ⟨Aq59, cq59, rfl⟩ := Kd.R_slice hr2
  refine Fl.addRR rfl hi hr1 hr2 hb ?_
  clear hr1 hr2
  clear hi hb hE
  simp only [Act.put, Fl.z1, Fl.z2, Fl.z3]
  refine Fl.take (some 123) (v := .tuple #[.agg #[.slice Aq58 x23.length cq58], .agg #[.slice Aq59 x24.length cq59], .bool x25]) rfl rfl (Or.inl ⟨by rfl, fun _ _ => by rfl⟩) ?_
  simp only [Act.put, Fl.z1, Fl.z2, Fl.z3]
  refine Fl.take (some 130) (v := .agg #[.slice Aq58 x23.length cq58]) rfl rfl (Or.inl ⟨by rfl, fun _ _ => by rfl⟩) ?_
  simp only [Act.put, Fl.z1, Fl.z2, Fl.z3]
  refine Fl.take (some 131) (v := .agg #[.slice Aq59 x24.length cq59]) rfl rfl (Or.inl ⟨by rfl, fun _ _ => by rfl⟩) ?_
  simp only [Act.put, Fl.z1, Fl.z2, Fl.z3]
  refine Fl.take (some 132) (v := .bool x25) rfl rfl (Or.inl ⟨by rfl, fun _ _ => by rfl⟩) ?_
  simp only [Act.put, Fl.z1, Fl.z2, Fl.z3]
  refine Fl.fin2 (fun b60 b61 => ?_)
  simp only [Act.put, Fl.z1, Fl.z2, Fl.z3]
  refine Fl.store 4 #[.slice Aq58 x23.length cq58] rfl rfl rfl rfl _ _ _ rfl rfl rfl (by rfl) rfl (by kernel_rfl) (by simp [Value.oneCell']) ?_
  refine Fl.store 5 #[.slice Aq59 x24.length cq59] rfl rfl rfl rfl _ _ _ rfl rfl rfl (by rfl) rfl (by kernel_rfl) (by simp [Value.oneCell']) ?_
  refine Fl.take (some 21) (v := .bool x25) rfl rfl (Or.inl ⟨by rfl, fun _ _ => by rfl⟩) ?_
  simp only [Act.put, Fl.z1, Fl.z2, Fl.z3]
  refine Fl.stopN (fun W hi => ?_)
  replace HI := Lib.hid hi
  clear hi
  try clear hn_
  go_upto_region 36 with (fail)
  refine Fl.startL [.take 0, .take 1, .one 2, .take 3, .take 4, .take 5, .take 6, .one 7, .take 8, .take 9, .take 10, .take 11, .take 12, .take 13, .take 14] (by decide) HI.out ?_
  refine Fl.take (some 133) (v := .agg #[.slice Aq58 x23.length cq58]) rfl rfl (Fl.ld 4 rfl (by rfl) _ _ rfl rfl Try.underlying32 rfl (by kernel_rfl)) ?_
  simp only [Act.put, Fl.z1, Fl.z2, Fl.z3]
  refine Fl.take (some 134) (v := .agg #[.slice Aq15 x11.length cq15]) rfl rfl (Fl.ld 20 rfl (by rfl) _ _ rfl rfl Try.underlying32 rfl (by kernel_rfl)) ?_
  simp only [Act.put, Fl.z1, Fl.z2, Fl.z3]
  refine Fl.call (some 135) Try.func18 (by kernel_rfl) rfl #[.agg #[.slice Aq58 x23.length cq58], .agg #[.slice Aq15 x11.length cq15]] rfl rfl rfl (by rfl) rfl (fun E W hE hi => ?_)
  refine (laws_eqRope.calls k _ _ x23 _ _ x11 true W ((hE _ (Fl.inv_drop hi)).cR 0 rfl) ((hE _ (Fl.inv_drop hi)).lR 0 rfl) ((hE _ (Fl.inv_drop hi)).cR 16 rfl) ((hE _ (Fl.inv_drop hi)).lR 16 rfl) HA32.out).mono ?_
  rintro e W' ⟨rfl, hb⟩
  refine Fl.keep hi hb ?_
  clear hi hb hE
  simp only [Act.put, Fl.z1, Fl.z2, Fl.z3]
  refine Fl.take (some 136) (v := .bool false) rfl rfl (Or.inl ⟨by rfl, fun _ _ => by rfl⟩) ?_
  simp only [Act.put, Fl.z1, Fl.z2, Fl.z3]
  refine Fl.take (some 137) (v := .bool false) rfl rfl (Or.inl ⟨by rfl, fun _ _ => by rfl⟩) ?_
  simp only [Act.put, Fl.z1, Fl.z2, Fl.z3]
  refine Fl.take (some 138) (v := .agg #[.slice Aq59 x24.length cq59]) rfl rfl (Fl.ld 5 rfl (by rfl) _ _ rfl rfl Try.underlying32 rfl (by kernel_rfl)) ?_
  simp only [Act.put, Fl.z1, Fl.z2, Fl.z3]
  refine Fl.take (some 139) (v := .agg #[.slice Aq16 x12.length cq16]) rfl rfl (Fl.ld 21 rfl (by rfl) _ _ rfl rfl Try.underlying32 rfl (by kernel_rfl)) ?_
  simp only [Act.put, Fl.z1, Fl.z2, Fl.z3]
  refine Fl.call (some 140) Try.func18 (by kernel_rfl) rfl #[.agg #[.slice Aq59 x24.length cq59], .agg #[.slice Aq16 x12.length cq16]] rfl rfl rfl (by rfl) rfl (fun E W hE hi => ?_)
  refine (laws_eqRope.calls k _ _ x24 _ _ x12 true W ((hE _ (Fl.inv_drop hi)).cR 1 rfl) ((hE _ (Fl.inv_drop hi)).lR 1 rfl) ((hE _ (Fl.inv_drop hi)).cR 17 rfl) ((hE _ (Fl.inv_drop hi)).lR 17 rfl) HA34.out).mono ?_
  rintro e W' ⟨rfl, hb⟩
  refine Fl.keep hi hb ?_
  clear hi hb hE
  simp only [Act.put, Fl.z1, Fl.z2, Fl.z3]
  refine Fl.take (some 141) (v := .bool false) rfl rfl (Or.inl ⟨by rfl, fun _ _ => by rfl⟩) ?_
  simp only [Act.put, Fl.z1, Fl.z2, Fl.z3]
  refine Fl.take (some 142) (v := .bool false) rfl rfl (Or.inl ⟨by rfl, fun _ _ => by rfl⟩) ?_
  simp only [Act.put, Fl.z1, Fl.z2, Fl.z3]
  refine Fl.take (some 143) (v := .bool false) rfl rfl (Or.inl ⟨by rfl, fun _ _ => by rfl⟩) ?_
  simp only [Act.put, Fl.z1, Fl.z2, Fl.z3]
  refine Fl.take (some 144) (v := .bool x25) rfl rfl (Or.inl ⟨by rfl, fun _ _ => by rfl⟩) ?_
  simp only [Act.put, Fl.z1, Fl.z2, Fl.z3]
  refine Fl.take (some 145) (v := .bool x25) rfl rfl (Or.inl ⟨by rfl, fun _ _ => by rfl⟩) ?_
  simp only [Act.put, Fl.z1, Fl.z2, Fl.z3]
  refine Fl.take (some 146) (v := .bool false) rfl rfl (Or.inl ⟨by rfl, fun _ _ => by go_simp⟩) ?_
  simp only [Act.put, Fl.z1, Fl.z2, Fl.z3]
  refine Fl.take (some 147) (v := .bool false) rfl rfl (Or.inl ⟨by rfl, fun _ _ => by rfl⟩) ?_
  simp only [Act.put, Fl.z1, Fl.z2, Fl.z3]
  refine Fl.stop (fun W hi => ?_)
  replace HI := Lib.hid hi
  clear hi
  try clear hn_
  go_upto_region 39 with (fail)
  refine Fl.startL [.take 0, .take 1, .one 2, .take 3] (by decide) HI.out ?_
  refine Fl.take (some 148) (v := .agg #[.slice Aq27 x23.length cq27]) rfl rfl (Fl.ld 9 rfl (by rfl) _ _ rfl rfl Try.underlying32 rfl (by kernel_rfl)) ?_
  simp only [Act.put, Fl.z1, Fl.z2, Fl.z3]
  refine Fl.take (some 149) (v := .int .i64 1) rfl rfl (Or.inl ⟨by rfl, fun _ _ => by rfl⟩) ?_
  simp only [Act.put, Fl.z1, Fl.z2, Fl.z3]
  refine Fl.call (some 150) Try.func22 (by kernel_rfl) rfl #[.agg #[.slice Aq27 x23.length cq27], .int .i64 1] rfl rfl rfl (by rfl) rfl (fun E W hE hi => ?_)
  have hl_ := ((hE _ (Fl.inv_drop hi)).reads 10 rfl).1
  have hc_ := laws_heldRope.calls k _ _ x47 1 x52 W ((hE _ (Fl.inv_drop hi)).reads 10 rfl).2.2 (hl_ ▸ ((hE _ (Fl.inv_drop hi)).reads 10 rfl).2.1) HA53.out
  rw [← hl_] at hc_
  refine hc_.mono ?_
  clear hc_ hl_
  rintro e W' ⟨rfl, hb⟩
  refine Fl.keep hi hb ?_
  clear hi hb hE
  simp only [Act.put, Fl.z1, Fl.z2, Fl.z3]
  refine Fl.take (some 18) (v := .int .i64 x52) rfl rfl (Or.inl ⟨by rfl, fun _ _ => by rfl⟩) ?_
  simp only [Act.put, Fl.z1, Fl.z2, Fl.z3]
  refine Fl.stop (fun W hi => ?_)
  replace HI := Lib.hid hi
  clear hi
  try clear hn_
  have hn_ := decide_eq_false HNx52.out
  go_upto_region 42 with (fail)
  refine Fl.startL [.take 0, .take 1, .one 2, .take 3] (by decide) HI.out ?_
  refine Fl.take (some 153) (v := .agg #[.slice Aq28 x24.length cq28]) rfl rfl (Fl.ld 8 rfl (by rfl) _ _ rfl rfl Try.underlying32 rfl (by kernel_rfl)) ?_
  simp only [Act.put, Fl.z1, Fl.z2, Fl.z3]
  refine Fl.take (some 154) (v := .int .i64 x52) rfl rfl (Or.inl ⟨by rfl, fun _ _ => by rfl⟩) ?_
  simp only [Act.put, Fl.z1, Fl.z2, Fl.z3]
  refine Fl.call (some 155) Try.func22 (by kernel_rfl) rfl #[.agg #[.slice Aq28 x24.length cq28], .int .i64 x52] rfl rfl rfl (by rfl) rfl (fun E W hE hi => ?_)
  have hl_ := ((hE _ (Fl.inv_drop hi)).reads 11 rfl).1
  have hc_ := laws_heldRope.calls k _ _ x50 x52 x54 W ((hE _ (Fl.inv_drop hi)).reads 11 rfl).2.2 (hl_ ▸ ((hE _ (Fl.inv_drop hi)).reads 11 rfl).2.1) HA55.out
  rw [← hl_] at hc_
  refine hc_.mono ?_
  clear hc_ hl_
  rintro e W' ⟨rfl, hb⟩
  refine Fl.keep hi hb ?_
  clear hi hb hE
  simp only [Act.put, Fl.z1, Fl.z2, Fl.z3]
  refine Fl.take (some 18) (v := .int .i64 x54) rfl rfl (Or.inl ⟨by rfl, fun _ _ => by rfl⟩) ?_
  simp only [Act.put, Fl.z1, Fl.z2, Fl.z3]
  refine Fl.stop (fun W hi => ?_)
  replace HI := Lib.hid hi
  clear hi
  try clear hn_
  have hn_ := decide_eq_false HNx54.out
  go_wp2
  go_ret
  exact ⟨rfl, HI.out.bel⟩

end Go.Proofs.Ytldkbeccpheckab.PFnExactSplitRope
