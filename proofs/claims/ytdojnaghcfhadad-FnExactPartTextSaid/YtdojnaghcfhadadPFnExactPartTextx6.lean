/- What is proved here: each Go function that is named below answers, and leaves memory, as the theorem of its name says; no condition beyond those that each theorem states. Laid by this session's own program (wip/driver.py) over the kit's print. -/
import Derived.Test.YtdojnaghcfhadadPFnExactPartTextx0
import Derived.Test.YtdojnaghcfhadadPFnExactPartTextx4
import Derived.Test.YtdojnaghcfhadadPFnExactPartTextx5
namespace Go.Proofs.Ytdojnaghcfhadad.PFnExactPartText
open Go.RowKit Go.Proofs.YtdojnaghcfhadadW.PrintWords Go.Proofs.YtdojnaghcfhadadW.PrintLast Go.Proofs.YtdojnaghcfhadadW.PrintMore
attribute [local go_sem] max2_int min2_int max_two min_two max_three min_three max_four min_four   -- for this text's walks alone
set_option linter.unusedVariables false
set_option linter.unusedSimpArgs false

open Go.Proofs.Ytdojnaghcfhadad.Cp
/-! ### impl_Rope_split: function 96 -/
mutual
def impl_Rope_split.l0 : Nat → Int → List (S60) → List (S60) → Int → List (S60) → Int → Int → List (S60) → Option ((List (S60)) × (List (S60)))
 | 0, _, _, _, _, _, _, _, _ => none
 | k + 1, x1, x6, x7, x8, x15, x16, x17, x284000 => if x17 < x16 then (if 0 ≤ x17 then (if x17 < (x15.length : Int) then (if ((rd_T60 x15 x17).f2) = 0 then (if (wrap64 (x1 - x8)) > 0 then (impl_Rope_split.j1 k x1 x6 x7 x8 (wrap64 (x1 - x8)) x15 x16 x17 true x284000 ((rd_T60 x15 x17).f0) ((rd_T60 x15 x17).f1) ((rd_T60 x15 x17).f2) ((rd_T60 x15 x17).f3)) else ((impl_Rope_length.f k x284000).bind fun t292 => (impl_Rope_split.j1 k x1 x6 x7 x8 (wrap64 (x1 - x8)) x15 x16 x17 (x1 == t292) x284000 ((rd_T60 x15 x17).f0) ((rd_T60 x15 x17).f1) ((rd_T60 x15 x17).f2) ((rd_T60 x15 x17).f3)))) else (impl_Rope_split.j1 k x1 x6 x7 x8 (wrap64 (x1 - x8)) x15 x16 x17 false x284000 ((rd_T60 x15 x17).f0) ((rd_T60 x15 x17).f1) ((rd_T60 x15 x17).f2) ((rd_T60 x15 x17).f3))) else (none)) else (none)) else (some (x6, x7))
def impl_Rope_split.j1 : Nat → Int → List (S60) → List (S60) → Int → Int → List (S60) → Int → Int → Bool → List (S60) → Int → Int → Int → Int → Option ((List (S60)) × (List (S60)))
 | 0, _, _, _, _, _, _, _, _, _, _, _, _, _, _ => none
 | k + 1, x1, x6, x7, x8, x11, x15, x16, x17, x48, x284000, x292000, x292001, x292002, x292003 => if x48 = true then (impl_Rope_split.j2 k x1 x6 x7 x8 x11 x15 x16 x17 x48 x284000 x292000 x292001 x292002 x292003) else (if x292002 > 0 then (impl_Rope_split.j2 k x1 x6 x7 x8 x11 x15 x16 x17 (decide (x11 ≥ x292002)) x284000 x292000 x292001 x292002 x292003) else (impl_Rope_split.j2 k x1 x6 x7 x8 x11 x15 x16 x17 false x284000 x292000 x292001 x292002 x292003))
def impl_Rope_split.j2 : Nat → Int → List (S60) → List (S60) → Int → Int → List (S60) → Int → Int → Bool → List (S60) → Int → Int → Int → Int → Option ((List (S60)) × (List (S60)))
 | 0, _, _, _, _, _, _, _, _, _, _, _, _, _, _ => none
 | k + 1, x1, x6, x7, x8, x11, x15, x16, x17, x48, x284000, x292000, x292001, x292002, x292003 => if x48 = true then (if x6.length < 4398046511104 then (impl_Rope_split.l0 k x1 (x6 ++ [(⟨x292000, x292001, x292002, x292003⟩ : S60)]) x7 (wrap64 (x8 + x292002)) x15 x16 (wrap64 (x17 + 1)) x284000) else (none)) else (if x11 ≤ 0 then (if x7.length < 4398046511104 then (impl_Rope_split.l0 k x1 x6 (x7 ++ [(⟨x292000, x292001, x292002, x292003⟩ : S60)]) (wrap64 (x8 + x292002)) x15 x16 (wrap64 (x17 + 1)) x284000) else (none)) else ((impl_Window_part.f x292000 x292001 x292002 x292003 0 x11).bind fun bt299 => (if x6.length < 4398046511104 then (if x7.length < 4398046511104 then (impl_Rope_split.l0 k x1 (x6 ++ [(⟨bt299.1, bt299.2.1, bt299.2.2.1, bt299.2.2.2⟩ : S60)]) (x7 ++ [(⟨x292000, wrap64 (x292001 + x11), wrap64 (x292002 - x11), wrap64 (x292003 - x11)⟩ : S60)]) (wrap64 (x8 + x292002)) x15 x16 (wrap64 (x17 + 1)) x284000) else (none)) else (none))))
end
def impl_Rope_split.f (k : Nat) (l0_0 : List (S60)) (a1 : Int) : Option ((List (S60)) × (List (S60))) := impl_Rope_split.l0 k a1 (([] : List (S60))) (([] : List (S60))) 0 l0_0 (l0_0.length : Int) 0 l0_0
theorem impl_Rope_split.mono_l : ∀ k, (∀ y0 y1 y2 y3 y4 y5 y6 y7, LeO (impl_Rope_split.l0 k y0 y1 y2 y3 y4 y5 y6 y7) (impl_Rope_split.l0 (k + 1) y0 y1 y2 y3 y4 y5 y6 y7)) ∧ (∀ y0 y1 y2 y3 y4 y5 y6 y7 y8 y9 y10 y11 y12 y13, LeO (impl_Rope_split.j1 k y0 y1 y2 y3 y4 y5 y6 y7 y8 y9 y10 y11 y12 y13) (impl_Rope_split.j1 (k + 1) y0 y1 y2 y3 y4 y5 y6 y7 y8 y9 y10 y11 y12 y13)) ∧ (∀ y0 y1 y2 y3 y4 y5 y6 y7 y8 y9 y10 y11 y12 y13, LeO (impl_Rope_split.j2 k y0 y1 y2 y3 y4 y5 y6 y7 y8 y9 y10 y11 y12 y13) (impl_Rope_split.j2 (k + 1) y0 y1 y2 y3 y4 y5 y6 y7 y8 y9 y10 y11 y12 y13))
 | 0 => ⟨fun _ _ _ _ _ _ _ _ r h => by simp [impl_Rope_split.l0] at h, fun _ _ _ _ _ _ _ _ _ _ _ _ _ _ r h => by simp [impl_Rope_split.j1] at h, fun _ _ _ _ _ _ _ _ _ _ _ _ _ _ r h => by simp [impl_Rope_split.j2] at h⟩
 | k + 1 => by
  obtain ⟨ih0, ih1, ih2⟩ := impl_Rope_split.mono_l k
  refine ⟨?_, ?_, ?_⟩
  ·intro y0 y1 y2 y3 y4 y5 y6 y7
   unfold impl_Rope_split.l0
   repeat' first
   | (with_reducible exact ih0 _ _ _ _ _ _ _ _)
   | (with_reducible exact ih1 _ _ _ _ _ _ _ _ _ _ _ _ _ _)
   | (with_reducible exact ih2 _ _ _ _ _ _ _ _ _ _ _ _ _ _)
   | (with_reducible exact impl_Rope_length.mono _ _)
   | (with_reducible exact LeO.refl _)
   | (with_reducible exact LeO.none _)
   | (with_reducible refine LeO.ite ?_ ?_)
   | (with_reducible refine LeO.bind ?_ (fun _ => ?_))
   | exact ih0 _ _ _ _ _ _ _ _
   | exact ih1 _ _ _ _ _ _ _ _ _ _ _ _ _ _
   | exact ih2 _ _ _ _ _ _ _ _ _ _ _ _ _ _
   | exact impl_Rope_length.mono _ _
   | exact LeO.none _
   | refine LeO.ite ?_ ?_
   | refine LeO.bind ?_ (fun _ => ?_)
  ·intro y0 y1 y2 y3 y4 y5 y6 y7 y8 y9 y10 y11 y12 y13
   unfold impl_Rope_split.j1
   repeat' first
   | (with_reducible exact ih0 _ _ _ _ _ _ _ _)
   | (with_reducible exact ih1 _ _ _ _ _ _ _ _ _ _ _ _ _ _)
   | (with_reducible exact ih2 _ _ _ _ _ _ _ _ _ _ _ _ _ _)
   | (with_reducible exact impl_Rope_length.mono _ _)
   | (with_reducible exact LeO.refl _)
   | (with_reducible exact LeO.none _)
   | (with_reducible refine LeO.ite ?_ ?_)
   | (with_reducible refine LeO.bind ?_ (fun _ => ?_))
   | exact ih0 _ _ _ _ _ _ _ _
   | exact ih1 _ _ _ _ _ _ _ _ _ _ _ _ _ _
   | exact ih2 _ _ _ _ _ _ _ _ _ _ _ _ _ _
   | exact impl_Rope_length.mono _ _
   | exact LeO.none _
   | refine LeO.ite ?_ ?_
   | refine LeO.bind ?_ (fun _ => ?_)
  ·intro y0 y1 y2 y3 y4 y5 y6 y7 y8 y9 y10 y11 y12 y13
   unfold impl_Rope_split.j2
   repeat' first
   | (with_reducible exact ih0 _ _ _ _ _ _ _ _)
   | (with_reducible exact ih1 _ _ _ _ _ _ _ _ _ _ _ _ _ _)
   | (with_reducible exact ih2 _ _ _ _ _ _ _ _ _ _ _ _ _ _)
   | (with_reducible exact impl_Rope_length.mono _ _)
   | (with_reducible exact LeO.refl _)
   | (with_reducible exact LeO.none _)
   | (with_reducible refine LeO.ite ?_ ?_)
   | (with_reducible refine LeO.bind ?_ (fun _ => ?_))
   | exact ih0 _ _ _ _ _ _ _ _
   | exact ih1 _ _ _ _ _ _ _ _ _ _ _ _ _ _
   | exact ih2 _ _ _ _ _ _ _ _ _ _ _ _ _ _
   | exact impl_Rope_length.mono _ _
   | exact LeO.none _
   | refine LeO.ite ?_ ?_
   | refine LeO.bind ?_ (fun _ => ?_)
theorem impl_Rope_split.mono : ∀ a0 a1 k, LeO (impl_Rope_split.f k a0 a1) (impl_Rope_split.f (k + 1) a0 a1) := by
 intro a0 a1 k
 obtain ⟨ih0, ih1, ih2⟩ := impl_Rope_split.mono_l k
 unfold impl_Rope_split.f
 repeat' first
   | (with_reducible exact ih0 _ _ _ _ _ _ _ _)
   | (with_reducible exact ih1 _ _ _ _ _ _ _ _ _ _ _ _ _ _)
   | (with_reducible exact ih2 _ _ _ _ _ _ _ _ _ _ _ _ _ _)
   | (with_reducible exact impl_Rope_length.mono _ _)
   | (with_reducible exact LeO.refl _)
   | (with_reducible exact LeO.none _)
   | (with_reducible refine LeO.ite ?_ ?_)
   | (with_reducible refine LeO.bind ?_ (fun _ => ?_))
   | exact ih0 _ _ _ _ _ _ _ _
   | exact ih1 _ _ _ _ _ _ _ _ _ _ _ _ _ _
   | exact ih2 _ _ _ _ _ _ _ _ _ _ _ _ _ _
   | exact impl_Rope_length.mono _ _
   | exact LeO.none _
   | refine LeO.ite ?_ ?_
   | refine LeO.bind ?_ (fun _ => ?_)
set_option maxHeartbeats 8000000 in
set_option maxRecDepth 100000 in
theorem impl_Rope_split.calls (k : Nat) (A0_0 : Option Addr) (c0_0 : Nat) (l0_0 : List (S60)) (a1 : Int) (r1 : List (S60)) (r2 : List (S60)) (w : World) (hr0_0 : Kd.C k60 w A0_0 l0_0.length l0_0) (hc0_0 : l0_0.length ≤ c0_0) (h : impl_Rope_split.f k l0_0 a1 = some (r1, r2)) :
  Calls Try.prog 96 #[.agg #[.slice A0_0 l0_0.length c0_0], .int .i64 a1] w fun e w' => ∃ v0_ v1_ : Value, e = .returned (.tuple #[v0_, v1_]) ∧ Kd.R k60 60 w' w.heap.size (fun k_ => some k_ ≠ (v1_ : Value).ownBlock) v0_ r1 ∧ Kd.R k60 60 w' w.heap.size (fun k_ => some k_ ≠ (v0_ : Value).ownBlock) v1_ r2 ∧ Below w.heap.size w w' := by
 have hu32 := Try.underlying32
 have hu60 := Try.underlying60
 have HR0_0 := Aside0.mk hr0_0
 have HC0_0 := Aside0.mk hc0_0
 clear hr0_0 hc0_0
 have HB := Aside0.mk (Below.refl w.heap.size w)
 have H : (impl_Rope_split.l0 k a1 (([] : List (S60))) (([] : List (S60))) 0 l0_0 (l0_0.length : Int) 0 l0_0) = some (r1, r2) := h
 clear h
 obtain ⟨y284, hy284⟩ : ∃ y_ : List (S60), y_ = (([] : List (S60))) := ⟨_, rfl⟩
 replace H : (impl_Rope_split.l0 k a1 y284 (([] : List (S60))) 0 l0_0 (l0_0.length : Int) 0 l0_0) = some (r1, r2) := by first | (rw [hy284]; with_reducible exact H) | (have H2_ := (Option.bind_some _ _).symm.trans H; rw [hy284]; with_reducible exact H2_) | (have H2_ := (Option.bind_some _ _).symm.trans H; with_reducible exact H2_) | with_reducible exact H | (rw [hy284]; exact H) | exact H
 have Ny284 := Aside0.mk hy284
 clear hy284
 obtain ⟨y287, hy287⟩ : ∃ y_ : List (S60), y_ = (([] : List (S60))) := ⟨_, rfl⟩
 replace H : (impl_Rope_split.l0 k a1 y284 y287 0 l0_0 (l0_0.length : Int) 0 l0_0) = some (r1, r2) := by first | (rw [hy287]; with_reducible exact H) | (have H2_ := (Option.bind_some _ _).symm.trans H; rw [hy287]; with_reducible exact H2_) | (have H2_ := (Option.bind_some _ _).symm.trans H; with_reducible exact H2_) | with_reducible exact H | (rw [hy287]; exact H) | exact H
 have Ny287 := Aside0.mk hy287
 clear hy287
 have H' := Aside0.mk H
 clear H
 go_enter Try.func96, Try.ntmps96
 go_wp2_with (first | ((with_reducible refine gate_dst (N := 2) rfl ?_); refine box_event ?hg (N := 2) ?hd (cs := #[.slice A0_0 l0_0.length c0_0]) (t := 32) ?hr ?_; (case hd => rfl); (case hg => rfl); (case hr => first | (go_simp; done) | (go_simp; rfl)); intro gb283 hg w3 hbox hb; have BK283 := Aside0.mk (hbox); have GW283 := zge HB hg; have GE283 := zge HB hg; replace HB := zhs HB hb; clear hb hbox hg) | ((with_reducible refine gate_dst (N := 12) rfl ?_); refine Kd.R_lit k60 _ 60 ?hg (N := 12) ?hd (xs := ([] : List (S60))) (inner := []) (ok := fun _ => True) (okp := fun _ => True) ?hr ?hp (fun _ hk => hk) trivial (Below.refl _ _) (Nat.le_refl _) (by simp) ?_; (case hd => rfl); (case hg => rfl); (case hr => first | (go_simp; done) | (go_simp; rfl)); (case hp => exact (Reps.none _ _)); intro v285 w4 ho5 hb hg_ hnew_; clear hg_ hnew_; (first | rw [← Ny284.out] at ho5 | (simp only [Int.reduceToNat] at ho5; rw [← Ny284.out] at ho5)); have HO286 := Aside0.mk (Kd.R_lower ho5 (below_size (zh0 HB))); replace BK283 := zb0 BK283 hb; replace HB := zhs HB hb; clear hb ho5) | ((with_reducible refine gate_dst (N := 13) rfl ?_); refine Kd.R_lit k60 _ 60 ?hg (N := 13) ?hd (xs := ([] : List (S60))) (inner := []) (ok := fun _ => True) (okp := fun _ => True) ?hr ?hp (fun _ hk => hk) trivial (Below.refl _ _) (Nat.le_refl _) (by simp) ?_; (case hd => rfl); (case hg => rfl); (case hr => first | (go_simp; done) | (go_simp; rfl)); (case hp => exact (Reps.none _ _)); intro v288 w6 ho7 hb hg_ hnew_; clear hg_ hnew_; (first | rw [← Ny287.out] at ho7 | (simp only [Int.reduceToNat] at ho7; rw [← Ny287.out] at ho7)); have HO289 := Aside0.mk (Kd.R_lower (Kd.R_new' ho7 (Kd.R_lt (zr0 HO286))) (below_size (zh0 HB))); replace HO286 := Aside0.mk (Kd.R_elder' (zr0 HO286) (Kd.R_base ho7) hb); replace BK283 := zb0 BK283 hb; replace HB := zhs HB hb; clear hb ho7; have hcz8_0 := zc0 BK283 0 rfl; have hfz8_0 := blk_frozen BK283.out 0))
 go_loopg [6, 7, 8, 17] k (fun kq v6 v7 v8 v17 w' => ∃ (x6_1 : List (S60)) (x7_1 : List (S60)) (x8_1 : Int) (x17_1 : Int), v8 = .int .i64 x8_1 ∧ v17 = .int .i64 x17_1 ∧ Aside0 (impl_Rope_split.l0 kq a1 x6_1 x7_1 x8_1 l0_0 (l0_0.length : Int) x17_1 l0_0 = some (r1, r2)) ∧ Aside0 (kq ≤ k) ∧ Aside0 (Kd.R k60 60 w' w.heap.size (fun k_ => some k_ ≠ (v7 : Value).ownBlock) v6 x6_1) ∧ Aside0 (Kd.R k60 60 w' w.heap.size (fun k_ => some k_ ≠ (v6 : Value).ownBlock) v7 x7_1) ∧ Aside0 (w'.heap[gb283]? = some (.cells #[(.slice A0_0 l0_0.length c0_0)] 32 (0, 0))) ∧ Aside0 (Below w.heap.size w w'))
 case atStart => exact ⟨(y284), (y287), (0), (0), (by first | rfl | (simp; done) | (simp [*]; done)), (by first | rfl | (simp; done) | (simp [*]; done)), H', ⟨Nat.le_refl _⟩, ⟨by (with_reducible repeat (first | apply Kd.R_alloc | apply Kd.R_drewN | apply Kd.R_drew)); exact Kd.R_mono HO286.out (fun _ hk => hk.2)⟩, ⟨by (with_reducible repeat (first | apply Kd.R_alloc | apply Kd.R_drewN | apply Kd.R_drew)); exact Kd.R_mono HO289.out (fun _ hk => hk.2)⟩, ⟨zk0 BK283⟩, ⟨by repeat (first | exact zh0 HB | refine below_set ?_ GE283.out)⟩⟩
 case round =>
  clear H'
  try clear p2
  try clear hcz8_0
  try clear hfz8_0
  obtain ⟨x6_1, x7_1, x8_1, x17_1, rfl, rfl, HA, HK1, HO_6, HO_7, BK283, HB⟩ := hrel
  cases gk with
  | zero => exact absurd HA.out (by simp [impl_Rope_split.l0])
  | succ k1 =>
   have H := HA.out
   clear HA
   simp only [impl_Rope_split.l0] at H
   by_cases c9 : x17_1 < (l0_0.length : Int)
   ·rw [if_pos c9] at H
    have c9b0 : decide (x17_1 < (l0_0.length : Int)) = true := decide_eq_true c9
    clear c9
    by_cases c10 : 0 ≤ x17_1
    ·rw [if_pos c10] at H
     have c10b0 : decide (0 ≤ x17_1) = true := decide_eq_true c10
     clear c10
     by_cases c11 : x17_1 < (l0_0.length : Int)
     ·rw [if_pos c11] at H
      have c11b0 : decide (x17_1 < (l0_0.length : Int)) = true := decide_eq_true c11
      clear c11
      have HC12 := Aside0.mk H
      clear H
      have p290 : 0 ≤ (x17_1 : Int) := of_decide_eq_true (by first | (with_reducible assumption) | assumption)
      have q290 : x17_1 < (l0_0.length : Int) := of_decide_eq_true (by first | (with_reducible assumption) | assumption)
      obtain ⟨ad290, e290, hx290_0, hx290_1, hx290_2, hx290_3⟩ := at_T60 HR0_0.out x17_1 p290 q290
      cases e290
      replace hx290_0 := (HB.out.cell (World.block_lt_of_cell? w _ hx290_0)).trans hx290_0
      replace hx290_1 := (HB.out.cell (World.block_lt_of_cell? w _ hx290_1)).trans hx290_1
      replace hx290_2 := (HB.out.cell (World.block_lt_of_cell? w _ hx290_2)).trans hx290_2
      replace hx290_3 := (HB.out.cell (World.block_lt_of_cell? w _ hx290_3)).trans hx290_3
      replace p290 := eq_true p290
      replace q290 := eq_true q290
      go_upto_region 8 with (first | ((with_reducible refine gate_dst (N := 10) rfl ?_); refine box_event ?hg (N := 10) ?hd (cs := #[.int .i64 0, .int .i64 0, .int .i64 0, .int .i64 0]) (t := 60) ?hr ?_; (case hd => rfl); (case hg => rfl); (case hr => first | (go_simp; done) | (go_simp; rfl)); intro gb291 hg w13 hbox hb; have BK291 := Aside0.mk (hbox); have GW291 := Aside0.mk ((by rw [hg]; exact (below_size (by repeat (first | exact zh0 HB | refine below_set ?_ GE283.out))) : w.heap.size ≤ gb291)); have GE291 := Aside0.mk ((by rw [hg]; exact (below_size (by repeat (first | exact zh0 HB | refine below_set ?_ GE283.out))) : w.heap.size ≤ gb291)); have NB283_291 := znl BK283 hg; have NB291_283 := znr BK283 hg; replace HO_6 := Aside0.mk (Kd.R_below (Kd.R_elderB (zr0 HO_6) gb291 (Nat.le_of_eq hg.symm)) hb); replace HO_7 := Aside0.mk (Kd.R_below (Kd.R_elderB (zr0 HO_7) gb291 (Nat.le_of_eq hg.symm)) hb); replace BK283 := zb0 BK283 hb; replace HB := Aside0.mk (below_step (by repeat (first | exact zh0 HB | refine below_set ?_ GE283.out)) hb); clear hb hbox hg; have hnb14 := NB291_283.out; have hnc14 := NB283_291.out; have hcz15_0 := zc0 BK291 0 rfl; have hcz15_1 := zc0 BK291 1 rfl; have hcz15_2 := zc0 BK291 2 rfl; have hcz15_3 := zc0 BK291 3 rfl; have hfz15_0 := blk_frozen BK291.out 0; have hfz15_1 := blk_frozen BK291.out 1; have hfz15_2 := blk_frozen BK291.out 2; have hfz15_3 := blk_frozen BK291.out 3))
      (try simp only [Act.put, zp1, zp2, zp3])
      go_cut [48] (fun v48 wc => ∃ (kq : Nat) (x48_11 : Bool), v48 = .bool x48_11 ∧ Aside0 (impl_Rope_split.j1 kq a1 x6_1 x7_1 x8_1 (wrap64 (a1 - x8_1)) l0_0 (l0_0.length : Int) x17_1 x48_11 l0_0 ((rd_T60 l0_0 x17_1).f0) ((rd_T60 l0_0 x17_1).f1) ((rd_T60 l0_0 x17_1).f2) ((rd_T60 l0_0 x17_1).f3) = some (r1, r2)) ∧ Aside0 (kq ≤ k1) ∧ Aside0 (Kd.R k60 60 wc w.heap.size (fun k_ => some k_ ≠ (u7 : Value).ownBlock ∧ k_ ≠ gb291) u6 x6_1) ∧ Aside0 (Kd.R k60 60 wc w.heap.size (fun k_ => some k_ ≠ (u6 : Value).ownBlock ∧ k_ ≠ gb291) u7 x7_1) ∧ Aside0 (wc.heap[gb283]? = some (.cells #[(.slice (some ad290) l0_0.length c0_0)] 32 (0, 0))) ∧ Aside0 (wc.heap[gb291]? = some (.cells #[.int .i64 ((rd_T60 l0_0 x17_1).f0), .int .i64 ((rd_T60 l0_0 x17_1).f1), .int .i64 ((rd_T60 l0_0 x17_1).f2), .int .i64 ((rd_T60 l0_0 x17_1).f3)] 60 (0, 0))) ∧ Aside0 (Below w.heap.size w wc))
      case first =>
       have H := HC12.out
       clear HC12
       by_cases c16 : ((rd_T60 l0_0 x17_1).f2) = 0
       ·rw [if_pos c16] at H
        have c16b0 : (((rd_T60 l0_0 x17_1).f2) == 0) = true := beq_iff_eq.mpr c16
        have c16b1 : (((rd_T60 l0_0 x17_1).f2) != 0) = false := bne_eq_false_iff_eq.mpr c16
        clear c16
        (first | rw [c16b0] | (simp only [i64_w, i32_w]; rw [c16b0]) | skip)
        by_cases c17 : (wrap64 (a1 - x8_1)) > 0
        ·rw [if_pos c17] at H
         have c17b0 : decide (0 < (wrap64 (a1 - x8_1))) = true := decide_eq_true c17
         clear c17
         have H' := Aside0.mk H
         clear H
         have hnb18 := NB291_283.out
         have hnc18 := NB283_291.out
         have hcz19_0 := zc0 BK291 0 rfl
         have hcz19_1 := zc0 BK291 1 rfl
         have hcz19_2 := zc0 BK291 2 rfl
         have hcz19_3 := zc0 BK291 3 rfl
         have hfz19_0 := blk_frozen BK291.out 0
         have hfz19_1 := blk_frozen BK291.out 1
         have hfz19_2 := blk_frozen BK291.out 2
         have hfz19_3 := blk_frozen BK291.out 3
         go_wp2
         go_meet
         case rel => exact ⟨_, (true), (by first | rfl | (simp; done) | (simp [*]; done)), H', ⟨by have := HK1.out; first | omega | exact Nat.le_refl _⟩, ⟨by (with_reducible repeat (first | apply Kd.R_alloc | apply Kd.R_drewN | apply Kd.R_drew)); exact Kd.R_mono (Kd.R_far (p := ⟨gb291, 3, none⟩) (Kd.R_far (p := ⟨gb291, 2, none⟩) (Kd.R_far (p := ⟨gb291, 1, none⟩) (Kd.R_far (p := ⟨gb291, 0, none⟩) (Kd.R_mono HO_6.out (fun k_ hk => (⟨hk, hk.2⟩ : _ ∧ k_ ≠ gb291))) (fun _ hk => hk.2) (.int .i64 ((rd_T60 l0_0 x17_1).f0))) (fun _ hk => hk.2) (.int .i64 ((rd_T60 l0_0 x17_1).f1))) (fun _ hk => hk.2) (.int .i64 ((rd_T60 l0_0 x17_1).f2))) (fun _ hk => hk.2) (.int .i64 ((rd_T60 l0_0 x17_1).f3))) (fun _ hk => ⟨hk.1.1, hk.1.2⟩)⟩, ⟨by (with_reducible repeat (first | apply Kd.R_alloc | apply Kd.R_drewN | apply Kd.R_drew)); exact Kd.R_mono (Kd.R_far (p := ⟨gb291, 3, none⟩) (Kd.R_far (p := ⟨gb291, 2, none⟩) (Kd.R_far (p := ⟨gb291, 1, none⟩) (Kd.R_far (p := ⟨gb291, 0, none⟩) (Kd.R_mono HO_7.out (fun k_ hk => (⟨hk, hk.2⟩ : _ ∧ k_ ≠ gb291))) (fun _ hk => hk.2) (.int .i64 ((rd_T60 l0_0 x17_1).f0))) (fun _ hk => hk.2) (.int .i64 ((rd_T60 l0_0 x17_1).f1))) (fun _ hk => hk.2) (.int .i64 ((rd_T60 l0_0 x17_1).f2))) (fun _ hk => hk.2) (.int .i64 ((rd_T60 l0_0 x17_1).f3))) (fun _ hk => ⟨hk.1.1, hk.1.2⟩)⟩, ⟨by (with_reducible repeat (first | refine blk_drewN ?_ _ | refine blk_drew ?_ | refine blk_alloc ?_ _)); refine blk_far ?_ NB283_291.out _; refine blk_far ?_ NB283_291.out _; refine blk_far ?_ NB283_291.out _; refine blk_far ?_ NB283_291.out _; (with_reducible repeat (first | refine blk_drewN ?_ _ | refine blk_drew ?_ | refine blk_alloc ?_ _)); exact BK283.out⟩, ⟨by (with_reducible repeat (first | refine blk_drewN ?_ _ | refine blk_drew ?_ | refine blk_alloc ?_ _)); refine blk_put (cs := #[.int .i64 ((rd_T60 l0_0 x17_1).f0), .int .i64 ((rd_T60 l0_0 x17_1).f1), .int .i64 ((rd_T60 l0_0 x17_1).f2), .int .i64 0]) ?_ 3 _ rfl; refine blk_put (cs := #[.int .i64 ((rd_T60 l0_0 x17_1).f0), .int .i64 ((rd_T60 l0_0 x17_1).f1), .int .i64 0, .int .i64 0]) ?_ 2 _ rfl; refine blk_put (cs := #[.int .i64 ((rd_T60 l0_0 x17_1).f0), .int .i64 0, .int .i64 0, .int .i64 0]) ?_ 1 _ rfl; refine blk_put (cs := #[.int .i64 0, .int .i64 0, .int .i64 0, .int .i64 0]) ?_ 0 _ rfl; (with_reducible repeat (first | refine blk_drewN ?_ _ | refine blk_drew ?_ | refine blk_alloc ?_ _)); exact BK291.out⟩, ⟨by repeat (first | exact zh0 HB | refine below_set ?_ GE283.out | refine below_set ?_ GE291.out)⟩⟩
        ·rw [if_neg c17] at H
         have c17b0 : decide (0 < (wrap64 (a1 - x8_1))) = false := decide_eq_false c17
         clear c17
         replace H := Option.bind_eq_some_iff.mp H
         obtain ⟨t292, A200, H⟩ := H
         replace H : (impl_Rope_split.j1 k1 a1 x6_1 x7_1 x8_1 (wrap64 (a1 - x8_1)) l0_0 (l0_0.length : Int) x17_1 (a1 == t292) l0_0 ((rd_T60 l0_0 x17_1).f0) ((rd_T60 l0_0 x17_1).f1) ((rd_T60 l0_0 x17_1).f2) ((rd_T60 l0_0 x17_1).f3)) = some (r1, r2) := H
         have A20 := Aside0.mk A200
         clear A200
         have H' := Aside0.mk H
         clear H
         have hnb21 := NB291_283.out
         have hnc21 := NB283_291.out
         have hcz22_0 := zc0 BK291 0 rfl
         have hcz22_1 := zc0 BK291 1 rfl
         have hcz22_2 := zc0 BK291 2 rfl
         have hcz22_3 := zc0 BK291 3 rfl
         have hfz22_0 := blk_frozen BK291.out 0
         have hfz22_1 := blk_frozen BK291.out 1
         have hfz22_2 := blk_frozen BK291.out 2
         have hfz22_3 := blk_frozen BK291.out 3
         have hcz23_0 := zc0 BK283 0 rfl
         have hfz23_0 := blk_frozen BK283.out 0
         go_wp2_with (first | (go_at_call 95; (with_reducible refine (impl_Rope_length.calls k1 _ _ l0_0 t292 _ ?side1 ?side2 A20.out).mono ?_); (case side1 => exact Kd.C_below HR0_0.out (by repeat (first | exact zh0 HB | refine below_set ?_ GE283.out | refine below_set ?_ GE291.out))); (case side2 => exact HC0_0.out); rintro e w24 ⟨rfl, hb⟩; replace HO_6 := Aside0.mk (Kd.R_below (by (with_reducible repeat (first | apply Kd.R_alloc | apply Kd.R_drewN | apply Kd.R_drew)); exact (Kd.R_mono (Kd.R_far (p := ⟨gb291, 3, none⟩) (Kd.R_far (p := ⟨gb291, 2, none⟩) (Kd.R_far (p := ⟨gb291, 1, none⟩) (Kd.R_far (p := ⟨gb291, 0, none⟩) (Kd.R_mono HO_6.out (fun k_ hk => (⟨hk, hk.2⟩ : _ ∧ k_ ≠ gb291))) (fun _ hk => hk.2) (.int .i64 ((rd_T60 l0_0 x17_1).f0))) (fun _ hk => hk.2) (.int .i64 ((rd_T60 l0_0 x17_1).f1))) (fun _ hk => hk.2) (.int .i64 ((rd_T60 l0_0 x17_1).f2))) (fun _ hk => hk.2) (.int .i64 ((rd_T60 l0_0 x17_1).f3))) (fun _ h_ => h_.1))) hb); replace HO_7 := Aside0.mk (Kd.R_below (by (with_reducible repeat (first | apply Kd.R_alloc | apply Kd.R_drewN | apply Kd.R_drew)); exact (Kd.R_mono (Kd.R_far (p := ⟨gb291, 3, none⟩) (Kd.R_far (p := ⟨gb291, 2, none⟩) (Kd.R_far (p := ⟨gb291, 1, none⟩) (Kd.R_far (p := ⟨gb291, 0, none⟩) (Kd.R_mono HO_7.out (fun k_ hk => (⟨hk, hk.2⟩ : _ ∧ k_ ≠ gb291))) (fun _ hk => hk.2) (.int .i64 ((rd_T60 l0_0 x17_1).f0))) (fun _ hk => hk.2) (.int .i64 ((rd_T60 l0_0 x17_1).f1))) (fun _ hk => hk.2) (.int .i64 ((rd_T60 l0_0 x17_1).f2))) (fun _ hk => hk.2) (.int .i64 ((rd_T60 l0_0 x17_1).f3))) (fun _ h_ => h_.1))) hb); replace BK283 := Aside0.mk (blk_below (g := gb283) (o := .cells #[.slice (some ad290) l0_0.length c0_0] 32 (0, 0)) (by (with_reducible repeat (first | refine blk_drewN ?_ _ | refine blk_drew ?_ | refine blk_alloc ?_ _)); refine blk_far ?_ NB283_291.out _; refine blk_far ?_ NB283_291.out _; refine blk_far ?_ NB283_291.out _; refine blk_far ?_ NB283_291.out _; (with_reducible repeat (first | refine blk_drewN ?_ _ | refine blk_drew ?_ | refine blk_alloc ?_ _)); exact BK283.out) hb); replace BK291 := Aside0.mk (blk_below (g := gb291) (o := .cells #[.int .i64 ((rd_T60 l0_0 x17_1).f0), .int .i64 ((rd_T60 l0_0 x17_1).f1), .int .i64 ((rd_T60 l0_0 x17_1).f2), .int .i64 ((rd_T60 l0_0 x17_1).f3)] 60 (0, 0)) (by (with_reducible repeat (first | refine blk_drewN ?_ _ | refine blk_drew ?_ | refine blk_alloc ?_ _)); refine blk_put (cs := #[.int .i64 ((rd_T60 l0_0 x17_1).f0), .int .i64 ((rd_T60 l0_0 x17_1).f1), .int .i64 ((rd_T60 l0_0 x17_1).f2), .int .i64 0]) ?_ 3 _ rfl; refine blk_put (cs := #[.int .i64 ((rd_T60 l0_0 x17_1).f0), .int .i64 ((rd_T60 l0_0 x17_1).f1), .int .i64 0, .int .i64 0]) ?_ 2 _ rfl; refine blk_put (cs := #[.int .i64 ((rd_T60 l0_0 x17_1).f0), .int .i64 0, .int .i64 0, .int .i64 0]) ?_ 1 _ rfl; refine blk_put (cs := #[.int .i64 0, .int .i64 0, .int .i64 0, .int .i64 0]) ?_ 0 _ rfl; (with_reducible repeat (first | refine blk_drewN ?_ _ | refine blk_drew ?_ | refine blk_alloc ?_ _)); exact BK291.out) hb); replace HB := Aside0.mk (below_step (by repeat (first | exact zh0 HB | refine below_set ?_ GE283.out | refine below_set ?_ GE291.out)) hb); (try clear hb); (try clear hb2); (try clear hk); (try clear hi)))
         go_meet
         case rel => exact ⟨_, ((a1 == t292)), (by first | rfl | (simp; done) | (simp [*]; done)), H', ⟨by have := HK1.out; first | omega | exact Nat.le_refl _⟩, ⟨zr0 HO_6⟩, ⟨zr0 HO_7⟩, ⟨zk0 BK283⟩, ⟨zk0 BK291⟩, ⟨by repeat (first | exact zh0 HB | refine below_set ?_ GE283.out | refine below_set ?_ GE291.out)⟩⟩
       ·rw [if_neg c16] at H
        have c16b0 : (((rd_T60 l0_0 x17_1).f2) == 0) = false := beq_eq_false_iff_ne.mpr c16
        have c16b1 : (((rd_T60 l0_0 x17_1).f2) != 0) = true := bne_iff_ne.mpr c16
        (first | rw [c16b0] | (simp only [i64_w, i32_w]; rw [c16b0]) | skip)
        have H' := Aside0.mk H
        clear H
        have hnb25 := NB291_283.out
        have hnc25 := NB283_291.out
        have hcz26_0 := zc0 BK291 0 rfl
        have hcz26_1 := zc0 BK291 1 rfl
        have hcz26_2 := zc0 BK291 2 rfl
        have hcz26_3 := zc0 BK291 3 rfl
        have hfz26_0 := blk_frozen BK291.out 0
        have hfz26_1 := blk_frozen BK291.out 1
        have hfz26_2 := blk_frozen BK291.out 2
        have hfz26_3 := blk_frozen BK291.out 3
        go_wp2
        go_meet
        case rel => exact ⟨_, (false), (by first | rfl | (simp; done) | (simp [*]; done)), H', ⟨by have := HK1.out; first | omega | exact Nat.le_refl _⟩, ⟨by (with_reducible repeat (first | apply Kd.R_alloc | apply Kd.R_drewN | apply Kd.R_drew)); exact Kd.R_mono (Kd.R_far (p := ⟨gb291, 3, none⟩) (Kd.R_far (p := ⟨gb291, 2, none⟩) (Kd.R_far (p := ⟨gb291, 1, none⟩) (Kd.R_far (p := ⟨gb291, 0, none⟩) (Kd.R_mono HO_6.out (fun k_ hk => (⟨hk, hk.2⟩ : _ ∧ k_ ≠ gb291))) (fun _ hk => hk.2) (.int .i64 ((rd_T60 l0_0 x17_1).f0))) (fun _ hk => hk.2) (.int .i64 ((rd_T60 l0_0 x17_1).f1))) (fun _ hk => hk.2) (.int .i64 ((rd_T60 l0_0 x17_1).f2))) (fun _ hk => hk.2) (.int .i64 ((rd_T60 l0_0 x17_1).f3))) (fun _ hk => ⟨hk.1.1, hk.1.2⟩)⟩, ⟨by (with_reducible repeat (first | apply Kd.R_alloc | apply Kd.R_drewN | apply Kd.R_drew)); exact Kd.R_mono (Kd.R_far (p := ⟨gb291, 3, none⟩) (Kd.R_far (p := ⟨gb291, 2, none⟩) (Kd.R_far (p := ⟨gb291, 1, none⟩) (Kd.R_far (p := ⟨gb291, 0, none⟩) (Kd.R_mono HO_7.out (fun k_ hk => (⟨hk, hk.2⟩ : _ ∧ k_ ≠ gb291))) (fun _ hk => hk.2) (.int .i64 ((rd_T60 l0_0 x17_1).f0))) (fun _ hk => hk.2) (.int .i64 ((rd_T60 l0_0 x17_1).f1))) (fun _ hk => hk.2) (.int .i64 ((rd_T60 l0_0 x17_1).f2))) (fun _ hk => hk.2) (.int .i64 ((rd_T60 l0_0 x17_1).f3))) (fun _ hk => ⟨hk.1.1, hk.1.2⟩)⟩, ⟨by (with_reducible repeat (first | refine blk_drewN ?_ _ | refine blk_drew ?_ | refine blk_alloc ?_ _)); refine blk_far ?_ NB283_291.out _; refine blk_far ?_ NB283_291.out _; refine blk_far ?_ NB283_291.out _; refine blk_far ?_ NB283_291.out _; (with_reducible repeat (first | refine blk_drewN ?_ _ | refine blk_drew ?_ | refine blk_alloc ?_ _)); exact BK283.out⟩, ⟨by (with_reducible repeat (first | refine blk_drewN ?_ _ | refine blk_drew ?_ | refine blk_alloc ?_ _)); refine blk_put (cs := #[.int .i64 ((rd_T60 l0_0 x17_1).f0), .int .i64 ((rd_T60 l0_0 x17_1).f1), .int .i64 ((rd_T60 l0_0 x17_1).f2), .int .i64 0]) ?_ 3 _ rfl; refine blk_put (cs := #[.int .i64 ((rd_T60 l0_0 x17_1).f0), .int .i64 ((rd_T60 l0_0 x17_1).f1), .int .i64 0, .int .i64 0]) ?_ 2 _ rfl; refine blk_put (cs := #[.int .i64 ((rd_T60 l0_0 x17_1).f0), .int .i64 0, .int .i64 0, .int .i64 0]) ?_ 1 _ rfl; refine blk_put (cs := #[.int .i64 0, .int .i64 0, .int .i64 0, .int .i64 0]) ?_ 0 _ rfl; (with_reducible repeat (first | refine blk_drewN ?_ _ | refine blk_drew ?_ | refine blk_alloc ?_ _)); exact BK291.out⟩, ⟨by repeat (first | exact zh0 HB | refine below_set ?_ GE283.out | refine below_set ?_ GE291.out)⟩⟩
      case rest =>
       clear HC12
       try clear c1
       try clear c2
       try clear p2
       try clear q2
       try clear hx2
       try clear p6
       try clear c9
       try clear c9b0
       try clear c10
       try clear c10b0
       try clear c11
       try clear c11b0
       try clear c14
       try clear c16
       try clear c16b0
       try clear c16b1
       try clear c17
       try clear c17b0
       try clear c18
       try clear c21
       try clear c25
       try clear hcz15_0
       try clear hcz15_1
       try clear hcz15_2
       try clear hcz15_3
       try clear hcz19_0
       try clear hcz19_1
       try clear hcz19_2
       try clear hcz19_3
       try clear hcz22_0
       try clear hcz22_1
       try clear hcz22_2
       try clear hcz22_3
       try clear hcz23_0
       try clear hcz26_0
       try clear hcz26_1
       try clear hcz26_2
       try clear hcz26_3
       try clear hcz8_0
       try clear hfz15_0
       try clear hfz15_1
       try clear hfz15_2
       try clear hfz15_3
       try clear hfz19_0
       try clear hfz19_1
       try clear hfz19_2
       try clear hfz19_3
       try clear hfz22_0
       try clear hfz22_1
       try clear hfz22_2
       try clear hfz22_3
       try clear hfz23_0
       try clear hfz26_0
       try clear hfz26_1
       try clear hfz26_2
       try clear hfz26_3
       try clear hfz8_0
       try clear hx290_0
       try clear hx290_1
       try clear hx290_2
       try clear hx290_3
       try clear p2
       try clear p290
       try clear q290
       obtain ⟨kq, x48_11, rfl, HA, HJ11, HO_6, HO_7, BK283, BK291, HB⟩ := hcut
       cases kq with
       | zero => exact absurd HA.out (by simp [impl_Rope_split.j1])
       | succ kj11 =>
        have H := HA.out
        clear HA
        simp only [impl_Rope_split.j1] at H
        have HC27 := Aside0.mk H
        clear H
        go_upto_if 48 with (fail)
        go_cut [48] (fun v48 wc => ∃ (kq : Nat) (x48_26 : Bool), v48 = .bool x48_26 ∧ Aside0 (impl_Rope_split.j2 kq a1 x6_1 x7_1 x8_1 (wrap64 (a1 - x8_1)) l0_0 (l0_0.length : Int) x17_1 x48_26 l0_0 ((rd_T60 l0_0 x17_1).f0) ((rd_T60 l0_0 x17_1).f1) ((rd_T60 l0_0 x17_1).f2) ((rd_T60 l0_0 x17_1).f3) = some (r1, r2)) ∧ Aside0 (kq ≤ kj11) ∧ Aside0 (Kd.R k60 60 wc w.heap.size (fun k_ => some k_ ≠ (u7 : Value).ownBlock ∧ k_ ≠ gb291) u6 x6_1) ∧ Aside0 (Kd.R k60 60 wc w.heap.size (fun k_ => some k_ ≠ (u6 : Value).ownBlock ∧ k_ ≠ gb291) u7 x7_1) ∧ Aside0 (wc.heap[gb283]? = some (.cells #[(.slice (some ad290) l0_0.length c0_0)] 32 (0, 0))) ∧ Aside0 (wc.heap[gb291]? = some (.cells #[.int .i64 ((rd_T60 l0_0 x17_1).f0), .int .i64 ((rd_T60 l0_0 x17_1).f1), .int .i64 ((rd_T60 l0_0 x17_1).f2), .int .i64 ((rd_T60 l0_0 x17_1).f3)] 60 (0, 0))) ∧ Aside0 (Below w.heap.size w wc))
        case first =>
         have H := HC27.out
         clear HC27
         by_cases c28 : x48_11 = true
         ·subst c28
          have H1 : (impl_Rope_split.j2 kj11 a1 x6_1 x7_1 x8_1 (wrap64 (a1 - x8_1)) l0_0 (l0_0.length : Int) x17_1 true l0_0 ((rd_T60 l0_0 x17_1).f0) ((rd_T60 l0_0 x17_1).f1) ((rd_T60 l0_0 x17_1).f2) ((rd_T60 l0_0 x17_1).f3)) = some (r1, r2) := by rw [if_pos rfl] at H; exact H
          clear H
          have H := H1
          clear H1
          have H' := Aside0.mk H
          clear H
          go_wp2
          go_meet
          case rel => exact ⟨_, (true), (by first | rfl | (simp; done) | (simp [*]; done)), H', ⟨by have := HK1.out; have := HJ11.out; first | omega | exact Nat.le_refl _⟩, ⟨zr0 HO_6⟩, ⟨zr0 HO_7⟩, ⟨zk0 BK283⟩, ⟨zk0 BK291⟩, ⟨by repeat (first | exact zh0 HB | refine below_set ?_ GE283.out | refine below_set ?_ GE291.out)⟩⟩
         ·replace c28 := Bool.eq_false_iff.mpr c28
          subst c28
          have H1 : (if ((rd_T60 l0_0 x17_1).f2) > 0 then (impl_Rope_split.j2 kj11 a1 x6_1 x7_1 x8_1 (wrap64 (a1 - x8_1)) l0_0 (l0_0.length : Int) x17_1 (decide ((wrap64 (a1 - x8_1)) ≥ ((rd_T60 l0_0 x17_1).f2))) l0_0 ((rd_T60 l0_0 x17_1).f0) ((rd_T60 l0_0 x17_1).f1) ((rd_T60 l0_0 x17_1).f2) ((rd_T60 l0_0 x17_1).f3)) else (impl_Rope_split.j2 kj11 a1 x6_1 x7_1 x8_1 (wrap64 (a1 - x8_1)) l0_0 (l0_0.length : Int) x17_1 false l0_0 ((rd_T60 l0_0 x17_1).f0) ((rd_T60 l0_0 x17_1).f1) ((rd_T60 l0_0 x17_1).f2) ((rd_T60 l0_0 x17_1).f3))) = some (r1, r2) := by rw [if_neg (show ¬ (false = true) by decide)] at H; exact H
          clear H
          have H := H1
          clear H1
          by_cases c29 : ((rd_T60 l0_0 x17_1).f2) > 0
          ·rw [if_pos c29] at H
           have c29b0 : decide (0 < ((rd_T60 l0_0 x17_1).f2)) = true := decide_eq_true c29
           clear c29
           (first | rw [c29b0] | (simp only [i64_w, i32_w]; rw [c29b0]) | skip)
           have H' := Aside0.mk H
           clear H
           have hnb30 := NB291_283.out
           have hnc30 := NB283_291.out
           have hcz31_0 := zc0 BK291 0 rfl
           have hcz31_1 := zc0 BK291 1 rfl
           have hcz31_2 := zc0 BK291 2 rfl
           have hcz31_3 := zc0 BK291 3 rfl
           have hfz31_0 := blk_frozen BK291.out 0
           have hfz31_1 := blk_frozen BK291.out 1
           have hfz31_2 := blk_frozen BK291.out 2
           have hfz31_3 := blk_frozen BK291.out 3
           go_wp2
           go_meet
           case rel => exact ⟨_, (decide ((wrap64 (a1 - x8_1)) ≥ ((rd_T60 l0_0 x17_1).f2))), (by first | rfl | (simp; done) | (simp [*]; done)), H', ⟨by have := HK1.out; have := HJ11.out; first | omega | exact Nat.le_refl _⟩, ⟨zr0 HO_6⟩, ⟨zr0 HO_7⟩, ⟨zk0 BK283⟩, ⟨zk0 BK291⟩, ⟨by repeat (first | exact zh0 HB | refine below_set ?_ GE283.out | refine below_set ?_ GE291.out)⟩⟩
          ·rw [if_neg c29] at H
           have c29b0 : decide (0 < ((rd_T60 l0_0 x17_1).f2)) = false := decide_eq_false c29
           clear c29
           (first | rw [c29b0] | (simp only [i64_w, i32_w]; rw [c29b0]) | skip)
           have H' := Aside0.mk H
           clear H
           have hnb32 := NB291_283.out
           have hnc32 := NB283_291.out
           have hcz33_0 := zc0 BK291 0 rfl
           have hcz33_1 := zc0 BK291 1 rfl
           have hcz33_2 := zc0 BK291 2 rfl
           have hcz33_3 := zc0 BK291 3 rfl
           have hfz33_0 := blk_frozen BK291.out 0
           have hfz33_1 := blk_frozen BK291.out 1
           have hfz33_2 := blk_frozen BK291.out 2
           have hfz33_3 := blk_frozen BK291.out 3
           go_wp2
           go_meet
           case rel => exact ⟨_, (false), (by first | rfl | (simp; done) | (simp [*]; done)), H', ⟨by have := HK1.out; have := HJ11.out; first | omega | exact Nat.le_refl _⟩, ⟨zr0 HO_6⟩, ⟨zr0 HO_7⟩, ⟨zk0 BK283⟩, ⟨zk0 BK291⟩, ⟨by repeat (first | exact zh0 HB | refine below_set ?_ GE283.out | refine below_set ?_ GE291.out)⟩⟩
        case rest =>
         clear HC27
         try clear c1
         try clear c2
         try clear p2
         try clear q2
         try clear hx2
         try clear c3
         try clear p6
         try clear c9
         try clear c9b0
         try clear c10
         try clear c10b0
         try clear c11
         try clear c11b0
         try clear c14
         try clear c16
         try clear c16b0
         try clear c16b1
         try clear c17
         try clear c17b0
         try clear c18
         try clear c21
         try clear c25
         try clear c28
         try clear c29
         try clear c29b0
         try clear p29
         try clear q29
         try clear hx29
         try clear c30
         try clear c32
         try clear hcz15_0
         try clear hcz15_1
         try clear hcz15_2
         try clear hcz15_3
         try clear hcz19_0
         try clear hcz19_1
         try clear hcz19_2
         try clear hcz19_3
         try clear hcz22_0
         try clear hcz22_1
         try clear hcz22_2
         try clear hcz22_3
         try clear hcz23_0
         try clear hcz26_0
         try clear hcz26_1
         try clear hcz26_2
         try clear hcz26_3
         try clear hcz31_0
         try clear hcz31_1
         try clear hcz31_2
         try clear hcz31_3
         try clear hcz33_0
         try clear hcz33_1
         try clear hcz33_2
         try clear hcz33_3
         try clear hcz8_0
         try clear hfz15_0
         try clear hfz15_1
         try clear hfz15_2
         try clear hfz15_3
         try clear hfz19_0
         try clear hfz19_1
         try clear hfz19_2
         try clear hfz19_3
         try clear hfz22_0
         try clear hfz22_1
         try clear hfz22_2
         try clear hfz22_3
         try clear hfz23_0
         try clear hfz26_0
         try clear hfz26_1
         try clear hfz26_2
         try clear hfz26_3
         try clear hfz31_0
         try clear hfz31_1
         try clear hfz31_2
         try clear hfz31_3
         try clear hfz33_0
         try clear hfz33_1
         try clear hfz33_2
         try clear hfz33_3
         try clear hfz8_0
         try clear hx290_0
         try clear hx290_1
         try clear hx290_2
         try clear hx290_3
         try clear p2
         try clear p290
         try clear p6
         try clear q2
         try clear q290
         obtain ⟨kq, x48_26, rfl, HA, HJ26, HO_6, HO_7, BK283, BK291, HB⟩ := hcut
         cases kq with
         | zero => exact absurd HA.out (by simp [impl_Rope_split.j2])
         | succ kj26 =>
          have H := HA.out
          clear HA
          simp only [impl_Rope_split.j2] at H
          by_cases c34 : x48_26 = true
          ·subst c34
           have H1 : (if x6_1.length < 4398046511104 then (impl_Rope_split.l0 kj26 a1 (x6_1 ++ [(⟨((rd_T60 l0_0 x17_1).f0), ((rd_T60 l0_0 x17_1).f1), ((rd_T60 l0_0 x17_1).f2), ((rd_T60 l0_0 x17_1).f3)⟩ : S60)]) x7_1 (wrap64 (x8_1 + ((rd_T60 l0_0 x17_1).f2))) l0_0 (l0_0.length : Int) (wrap64 (x17_1 + 1)) l0_0) else (none)) = some (r1, r2) := by rw [if_pos rfl] at H; exact H
           clear H
           have H := H1
           clear H1
           by_cases c35 : x6_1.length < 4398046511104
           ·rw [if_pos c35] at H
            have LMc35 := Aside0.mk c35
            clear c35
            obtain ⟨y293, hy293⟩ : ∃ y_ : List (S60), y_ = (x6_1 ++ [(⟨((rd_T60 l0_0 x17_1).f0), ((rd_T60 l0_0 x17_1).f1), ((rd_T60 l0_0 x17_1).f2), ((rd_T60 l0_0 x17_1).f3)⟩ : S60)]) := ⟨_, rfl⟩
            replace H : (impl_Rope_split.l0 kj26 a1 y293 x7_1 (wrap64 (x8_1 + ((rd_T60 l0_0 x17_1).f2))) l0_0 (l0_0.length : Int) (wrap64 (x17_1 + 1)) l0_0) = some (r1, r2) := by first | (rw [hy293]; with_reducible exact H) | (have H2_ := (Option.bind_some _ _).symm.trans H; rw [hy293]; with_reducible exact H2_) | (have H2_ := (Option.bind_some _ _).symm.trans H; with_reducible exact H2_) | with_reducible exact H | (rw [hy293]; exact H) | exact H
            have Ny293 := Aside0.mk hy293
            clear hy293
            have H' := Aside0.mk H
            clear H
            have hnb36 := NB291_283.out
            have hnc36 := NB283_291.out
            have hcz37_0 := zc0 BK291 0 rfl
            have hcz37_1 := zc0 BK291 1 rfl
            have hcz37_2 := zc0 BK291 2 rfl
            have hcz37_3 := zc0 BK291 3 rfl
            have hfz37_0 := blk_frozen BK291.out 0
            have hfz37_1 := blk_frozen BK291.out 1
            have hfz37_2 := blk_frozen BK291.out 2
            have hfz37_3 := blk_frozen BK291.out 3
            go_wp2_with (first | ((with_reducible refine gate_builtin (b := .append) (xs := #[.tmp 71, .tmp 73]) rfl ?_); at_builtin; refine Kd.R_append k60 (w0 := w) w.heap.size rfl (.tmp 71) (.tmp 73) 30 60 (.agg #[(.int .i64 0), (.int .i64 0), (.int .i64 0), (.int .i64 0)]) 32 rfl Try.underlying30 info60 rfl (by decide) (by omega) u6 x6_1 (⟨((rd_T60 l0_0 x17_1).f0), ((rd_T60 l0_0 x17_1).f1), ((rd_T60 l0_0 x17_1).f2), ((rd_T60 l0_0 x17_1).f3)⟩ : S60) [.int .i64 ((rd_T60 l0_0 x17_1).f0), .int .i64 ((rd_T60 l0_0 x17_1).f1), .int .i64 ((rd_T60 l0_0 x17_1).f2), .int .i64 ((rd_T60 l0_0 x17_1).f3)] (fun k_ => some k_ ≠ (u7 : Value).ownBlock ∧ k_ ≠ gb291) (fun _ => False) rfl rfl ?aP (fun _ hk => hk.elim) ?aF ?aO ?aB ?aS ?aL ?_; (case aP => exact k60_mkM _ _ _ (⟨((rd_T60 l0_0 x17_1).f0), ((rd_T60 l0_0 x17_1).f1), ((rd_T60 l0_0 x17_1).f2), ((rd_T60 l0_0 x17_1).f3)⟩ : S60)); (case aB => exact (by repeat (first | exact zh0 HB | refine below_set ?_ GE283.out | refine below_set ?_ GE291.out))); (case aF => exact (fun k_ hk => ⟨Kd.fresh' (Kd.R_lt (zr0 HO_7)) k_ hk, Kd.freshB (g := gb291) (o := .cells #[.int .i64 ((rd_T60 l0_0 x17_1).f0), .int .i64 ((rd_T60 l0_0 x17_1).f1), .int .i64 ((rd_T60 l0_0 x17_1).f2), .int .i64 ((rd_T60 l0_0 x17_1).f3)] 60 (0, 0)) (zk0 BK291) k_ hk⟩)); (case aO => exact (zr0 HO_6)); (case aS => exact (below_size (by repeat (first | exact zh0 HB | refine below_set ?_ GE283.out | refine below_set ?_ GE291.out)))); (case aL => have := LMc35.out; omega); intro v294 w38 ho hb hg hat; rw [← Ny293.out] at ho; have n0_ := Aside0.mk (Kd.R_after (ok := (fun k_ => k_ ≠ gb291)) (by (with_reducible repeat (first | apply Kd.R_alloc | apply Kd.R_drewN | apply Kd.R_drew)); exact Kd.R_mono HO_7.out (fun _ hk => ⟨hk.2, hk.1⟩)) hg hat); have n1_ := Aside0.mk (blk_grown (g := gb283) (o := .cells #[.slice (some ad290) l0_0.length c0_0] 32 (0, 0)) (zk0 BK283) hg (Kd.R_ne HO_6.out BK283.out (by decide))); have n2_ := Aside0.mk (blk_grown (g := gb291) (o := .cells #[.int .i64 ((rd_T60 l0_0 x17_1).f0), .int .i64 ((rd_T60 l0_0 x17_1).f1), .int .i64 ((rd_T60 l0_0 x17_1).f2), .int .i64 ((rd_T60 l0_0 x17_1).f3)] 60 (0, 0)) (zk0 BK291) hg (Kd.R_away HO_6.out (fun _ hk => hk.2))); have n3_ := Aside0.mk (hb); have n4_ := Aside0.mk (ho); clear HO_7; clear BK283; clear BK291; clear HB; clear HO_6; have HO_7 := n0_; have BK283 := n1_; have BK291 := n2_; have HB := n3_; have HO295 := n4_; clear n0_ n1_ n2_ n3_ n4_; clear ho hb hg hat; have hcz39_0 := zc0 BK291 0 rfl; have hcz39_1 := zc0 BK291 1 rfl; have hcz39_2 := zc0 BK291 2 rfl; have hcz39_3 := zc0 BK291 3 rfl; have hfz39_0 := blk_frozen BK291.out 0; have hfz39_1 := blk_frozen BK291.out 1; have hfz39_2 := blk_frozen BK291.out 2; have hfz39_3 := blk_frozen BK291.out 3))
            go_roundg kj26
            case measure => have := HK1.out; have := HJ11.out; have := HJ26.out; omega
            case rel => exact ⟨(y293), (x7_1), (wrap64 (x8_1 + ((rd_T60 l0_0 x17_1).f2))), (wrap64 (x17_1 + 1)), (by first | rfl | (simp; done) | (simp [*]; done)), (by first | rfl | (simp; done) | (simp [*]; done)), H', ⟨by have := HK1.out; have := HJ11.out; have := HJ26.out; omega⟩, ⟨by (with_reducible repeat (first | apply Kd.R_alloc | apply Kd.R_drewN | apply Kd.R_drew)); exact Kd.R_mono HO295.out (fun _ hk => hk.1)⟩, ⟨by (with_reducible repeat (first | apply Kd.R_alloc | apply Kd.R_drewN | apply Kd.R_drew)); exact Kd.R_mono HO_7.out (fun _ hk => hk.2)⟩, ⟨zk0 BK283⟩, ⟨by repeat (first | exact zh0 HB | refine below_set ?_ GE283.out | refine below_set ?_ GE291.out)⟩⟩
           ·rw [if_neg c35] at H
            exact absurd H (by simp)
          ·replace c34 := Bool.eq_false_iff.mpr c34
           subst c34
           have H1 : (if (wrap64 (a1 - x8_1)) ≤ 0 then (if x7_1.length < 4398046511104 then (impl_Rope_split.l0 kj26 a1 x6_1 (x7_1 ++ [(⟨((rd_T60 l0_0 x17_1).f0), ((rd_T60 l0_0 x17_1).f1), ((rd_T60 l0_0 x17_1).f2), ((rd_T60 l0_0 x17_1).f3)⟩ : S60)]) (wrap64 (x8_1 + ((rd_T60 l0_0 x17_1).f2))) l0_0 (l0_0.length : Int) (wrap64 (x17_1 + 1)) l0_0) else (none)) else ((impl_Window_part.f ((rd_T60 l0_0 x17_1).f0) ((rd_T60 l0_0 x17_1).f1) ((rd_T60 l0_0 x17_1).f2) ((rd_T60 l0_0 x17_1).f3) 0 (wrap64 (a1 - x8_1))).bind fun bt299 => (if x6_1.length < 4398046511104 then (if x7_1.length < 4398046511104 then (impl_Rope_split.l0 kj26 a1 (x6_1 ++ [(⟨bt299.1, bt299.2.1, bt299.2.2.1, bt299.2.2.2⟩ : S60)]) (x7_1 ++ [(⟨((rd_T60 l0_0 x17_1).f0), wrap64 (((rd_T60 l0_0 x17_1).f1) + (wrap64 (a1 - x8_1))), wrap64 (((rd_T60 l0_0 x17_1).f2) - (wrap64 (a1 - x8_1))), wrap64 (((rd_T60 l0_0 x17_1).f3) - (wrap64 (a1 - x8_1)))⟩ : S60)]) (wrap64 (x8_1 + ((rd_T60 l0_0 x17_1).f2))) l0_0 (l0_0.length : Int) (wrap64 (x17_1 + 1)) l0_0) else (none)) else (none)))) = some (r1, r2) := by rw [if_neg (show ¬ (false = true) by decide)] at H; exact H
           clear H
           have H := H1
           clear H1
           by_cases c40 : (wrap64 (a1 - x8_1)) ≤ 0
           ·rw [if_pos c40] at H
            have c40b0 : decide ((wrap64 (a1 - x8_1)) ≤ 0) = true := decide_eq_true c40
            clear c40
            by_cases c41 : x7_1.length < 4398046511104
            ·rw [if_pos c41] at H
             have LMc41 := Aside0.mk c41
             clear c41
             obtain ⟨y296, hy296⟩ : ∃ y_ : List (S60), y_ = (x7_1 ++ [(⟨((rd_T60 l0_0 x17_1).f0), ((rd_T60 l0_0 x17_1).f1), ((rd_T60 l0_0 x17_1).f2), ((rd_T60 l0_0 x17_1).f3)⟩ : S60)]) := ⟨_, rfl⟩
             replace H : (impl_Rope_split.l0 kj26 a1 x6_1 y296 (wrap64 (x8_1 + ((rd_T60 l0_0 x17_1).f2))) l0_0 (l0_0.length : Int) (wrap64 (x17_1 + 1)) l0_0) = some (r1, r2) := by first | (rw [hy296]; with_reducible exact H) | (have H2_ := (Option.bind_some _ _).symm.trans H; rw [hy296]; with_reducible exact H2_) | (have H2_ := (Option.bind_some _ _).symm.trans H; with_reducible exact H2_) | with_reducible exact H | (rw [hy296]; exact H) | exact H
             have Ny296 := Aside0.mk hy296
             clear hy296
             have H' := Aside0.mk H
             clear H
             have hnb42 := NB291_283.out
             have hnc42 := NB283_291.out
             have hcz43_0 := zc0 BK291 0 rfl
             have hcz43_1 := zc0 BK291 1 rfl
             have hcz43_2 := zc0 BK291 2 rfl
             have hcz43_3 := zc0 BK291 3 rfl
             have hfz43_0 := blk_frozen BK291.out 0
             have hfz43_1 := blk_frozen BK291.out 1
             have hfz43_2 := blk_frozen BK291.out 2
             have hfz43_3 := blk_frozen BK291.out 3
             go_wp2_with (first | ((with_reducible refine gate_builtin (b := .append) (xs := #[.tmp 78, .tmp 80]) rfl ?_); at_builtin; refine Kd.R_append k60 (w0 := w) w.heap.size rfl (.tmp 78) (.tmp 80) 30 60 (.agg #[(.int .i64 0), (.int .i64 0), (.int .i64 0), (.int .i64 0)]) 32 rfl Try.underlying30 info60 rfl (by decide) (by omega) u7 x7_1 (⟨((rd_T60 l0_0 x17_1).f0), ((rd_T60 l0_0 x17_1).f1), ((rd_T60 l0_0 x17_1).f2), ((rd_T60 l0_0 x17_1).f3)⟩ : S60) [.int .i64 ((rd_T60 l0_0 x17_1).f0), .int .i64 ((rd_T60 l0_0 x17_1).f1), .int .i64 ((rd_T60 l0_0 x17_1).f2), .int .i64 ((rd_T60 l0_0 x17_1).f3)] (fun k_ => some k_ ≠ (u6 : Value).ownBlock ∧ k_ ≠ gb291) (fun _ => False) rfl rfl ?aP (fun _ hk => hk.elim) ?aF ?aO ?aB ?aS ?aL ?_; (case aP => exact k60_mkM _ _ _ (⟨((rd_T60 l0_0 x17_1).f0), ((rd_T60 l0_0 x17_1).f1), ((rd_T60 l0_0 x17_1).f2), ((rd_T60 l0_0 x17_1).f3)⟩ : S60)); (case aB => exact (by repeat (first | exact zh0 HB | refine below_set ?_ GE283.out | refine below_set ?_ GE291.out))); (case aF => exact (fun k_ hk => ⟨Kd.fresh' (Kd.R_lt (zr0 HO_6)) k_ hk, Kd.freshB (g := gb291) (o := .cells #[.int .i64 ((rd_T60 l0_0 x17_1).f0), .int .i64 ((rd_T60 l0_0 x17_1).f1), .int .i64 ((rd_T60 l0_0 x17_1).f2), .int .i64 ((rd_T60 l0_0 x17_1).f3)] 60 (0, 0)) (zk0 BK291) k_ hk⟩)); (case aO => exact (zr0 HO_7)); (case aS => exact (below_size (by repeat (first | exact zh0 HB | refine below_set ?_ GE283.out | refine below_set ?_ GE291.out)))); (case aL => have := LMc41.out; omega); intro v297 w44 ho hb hg hat; rw [← Ny296.out] at ho; have n0_ := Aside0.mk (Kd.R_after (ok := (fun k_ => k_ ≠ gb291)) (by (with_reducible repeat (first | apply Kd.R_alloc | apply Kd.R_drewN | apply Kd.R_drew)); exact Kd.R_mono HO_6.out (fun _ hk => ⟨hk.2, hk.1⟩)) hg hat); have n1_ := Aside0.mk (blk_grown (g := gb283) (o := .cells #[.slice (some ad290) l0_0.length c0_0] 32 (0, 0)) (zk0 BK283) hg (Kd.R_ne HO_7.out BK283.out (by decide))); have n2_ := Aside0.mk (blk_grown (g := gb291) (o := .cells #[.int .i64 ((rd_T60 l0_0 x17_1).f0), .int .i64 ((rd_T60 l0_0 x17_1).f1), .int .i64 ((rd_T60 l0_0 x17_1).f2), .int .i64 ((rd_T60 l0_0 x17_1).f3)] 60 (0, 0)) (zk0 BK291) hg (Kd.R_away HO_7.out (fun _ hk => hk.2))); have n3_ := Aside0.mk (hb); have n4_ := Aside0.mk (ho); clear HO_6; clear BK283; clear BK291; clear HB; clear HO_7; have HO_6 := n0_; have BK283 := n1_; have BK291 := n2_; have HB := n3_; have HO298 := n4_; clear n0_ n1_ n2_ n3_ n4_; clear ho hb hg hat; have hcz45_0 := zc0 BK291 0 rfl; have hcz45_1 := zc0 BK291 1 rfl; have hcz45_2 := zc0 BK291 2 rfl; have hcz45_3 := zc0 BK291 3 rfl; have hfz45_0 := blk_frozen BK291.out 0; have hfz45_1 := blk_frozen BK291.out 1; have hfz45_2 := blk_frozen BK291.out 2; have hfz45_3 := blk_frozen BK291.out 3))
             go_roundg kj26
             case measure => have := HK1.out; have := HJ11.out; have := HJ26.out; omega
             case rel => exact ⟨(x6_1), (y296), (wrap64 (x8_1 + ((rd_T60 l0_0 x17_1).f2))), (wrap64 (x17_1 + 1)), (by first | rfl | (simp; done) | (simp [*]; done)), (by first | rfl | (simp; done) | (simp [*]; done)), H', ⟨by have := HK1.out; have := HJ11.out; have := HJ26.out; omega⟩, ⟨by (with_reducible repeat (first | apply Kd.R_alloc | apply Kd.R_drewN | apply Kd.R_drew)); exact Kd.R_mono HO_6.out (fun _ hk => hk.2)⟩, ⟨by (with_reducible repeat (first | apply Kd.R_alloc | apply Kd.R_drewN | apply Kd.R_drew)); exact Kd.R_mono HO298.out (fun _ hk => hk.1)⟩, ⟨zk0 BK283⟩, ⟨by repeat (first | exact zh0 HB | refine below_set ?_ GE283.out | refine below_set ?_ GE291.out)⟩⟩
            ·rw [if_neg c41] at H
             exact absurd H (by simp)
           ·rw [if_neg c40] at H
            have c40b0 : decide ((wrap64 (a1 - x8_1)) ≤ 0) = false := decide_eq_false c40
            clear c40
            replace H := Option.bind_eq_some_iff.mp H
            obtain ⟨⟨t299, t300, t301, t302⟩, A460, H⟩ := H
            replace H : (if x6_1.length < 4398046511104 then (if x7_1.length < 4398046511104 then (impl_Rope_split.l0 kj26 a1 (x6_1 ++ [(⟨t299, t300, t301, t302⟩ : S60)]) (x7_1 ++ [(⟨((rd_T60 l0_0 x17_1).f0), wrap64 (((rd_T60 l0_0 x17_1).f1) + (wrap64 (a1 - x8_1))), wrap64 (((rd_T60 l0_0 x17_1).f2) - (wrap64 (a1 - x8_1))), wrap64 (((rd_T60 l0_0 x17_1).f3) - (wrap64 (a1 - x8_1)))⟩ : S60)]) (wrap64 (x8_1 + ((rd_T60 l0_0 x17_1).f2))) l0_0 (l0_0.length : Int) (wrap64 (x17_1 + 1)) l0_0) else (none)) else (none)) = some (r1, r2) := H
            have A46 := Aside0.mk A460
            clear A460
            by_cases c47 : x6_1.length < 4398046511104
            ·rw [if_pos c47] at H
             have LMc47 := Aside0.mk c47
             clear c47
             obtain ⟨y303, hy303⟩ : ∃ y_ : List (S60), y_ = (x6_1 ++ [(⟨t299, t300, t301, t302⟩ : S60)]) := ⟨_, rfl⟩
             replace H : (if x7_1.length < 4398046511104 then (impl_Rope_split.l0 kj26 a1 y303 (x7_1 ++ [(⟨((rd_T60 l0_0 x17_1).f0), wrap64 (((rd_T60 l0_0 x17_1).f1) + (wrap64 (a1 - x8_1))), wrap64 (((rd_T60 l0_0 x17_1).f2) - (wrap64 (a1 - x8_1))), wrap64 (((rd_T60 l0_0 x17_1).f3) - (wrap64 (a1 - x8_1)))⟩ : S60)]) (wrap64 (x8_1 + ((rd_T60 l0_0 x17_1).f2))) l0_0 (l0_0.length : Int) (wrap64 (x17_1 + 1)) l0_0) else (none)) = some (r1, r2) := by first | (rw [hy303]; with_reducible exact H) | (have H2_ := (Option.bind_some _ _).symm.trans H; rw [hy303]; with_reducible exact H2_) | (have H2_ := (Option.bind_some _ _).symm.trans H; with_reducible exact H2_) | with_reducible exact H | (rw [hy303]; exact H) | exact H
             have Ny303 := Aside0.mk hy303
             clear hy303
             by_cases c48 : x7_1.length < 4398046511104
             ·rw [if_pos c48] at H
              have LMc48 := Aside0.mk c48
              clear c48
              obtain ⟨y306, hy306⟩ : ∃ y_ : List (S60), y_ = (x7_1 ++ [(⟨((rd_T60 l0_0 x17_1).f0), wrap64 (((rd_T60 l0_0 x17_1).f1) + (wrap64 (a1 - x8_1))), wrap64 (((rd_T60 l0_0 x17_1).f2) - (wrap64 (a1 - x8_1))), wrap64 (((rd_T60 l0_0 x17_1).f3) - (wrap64 (a1 - x8_1)))⟩ : S60)]) := ⟨_, rfl⟩
              replace H : (impl_Rope_split.l0 kj26 a1 y303 y306 (wrap64 (x8_1 + ((rd_T60 l0_0 x17_1).f2))) l0_0 (l0_0.length : Int) (wrap64 (x17_1 + 1)) l0_0) = some (r1, r2) := by first | (rw [hy306]; with_reducible exact H) | (have H2_ := (Option.bind_some _ _).symm.trans H; rw [hy306]; with_reducible exact H2_) | (have H2_ := (Option.bind_some _ _).symm.trans H; with_reducible exact H2_) | with_reducible exact H | (rw [hy306]; exact H) | exact H
              have Ny306 := Aside0.mk hy306
              clear hy306
              have H' := Aside0.mk H
              clear H
              have hnb49 := NB291_283.out
              have hnc49 := NB283_291.out
              have hcz50_0 := zc0 BK291 0 rfl
              have hcz50_1 := zc0 BK291 1 rfl
              have hcz50_2 := zc0 BK291 2 rfl
              have hcz50_3 := zc0 BK291 3 rfl
              have hfz50_0 := blk_frozen BK291.out 0
              have hfz50_1 := blk_frozen BK291.out 1
              have hfz50_2 := blk_frozen BK291.out 2
              have hfz50_3 := blk_frozen BK291.out 3
              go_wp2_with (first | ((with_reducible refine gate_callee (f := 83) rfl ?_); refine goesL_ (some 27) rfl rfl Try.func83 (by kernel_rfl) rfl #[.agg #[.int .i64 ((rd_T60 l0_0 x17_1).f0), .int .i64 ((rd_T60 l0_0 x17_1).f1), .int .i64 ((rd_T60 l0_0 x17_1).f2), .int .i64 ((rd_T60 l0_0 x17_1).f3)], .int .i64 0, .int .i64 (wrap64 (a1 - x8_1))] rfl (by (try simp only [zq1, zq2, zq3]); first | done | rfl | (simp only [List.length_drop, List.length_take]; rfl)) ?_; (with_reducible refine (impl_Window_part.calls ((rd_T60 l0_0 x17_1).f0) ((rd_T60 l0_0 x17_1).f1) ((rd_T60 l0_0 x17_1).f2) ((rd_T60 l0_0 x17_1).f3) 0 (wrap64 (a1 - x8_1)) t299 t300 t301 t302 _ A46.out).mono ?_); rintro e w51 ⟨rfl, hb⟩; refine ⟨_, rfl, ?_⟩; replace HO_6 := zrb HO_6 hb; replace HO_7 := zrb HO_7 hb; replace BK283 := zb0 BK283 hb; replace BK291 := zb0 BK291 hb; replace HB := zhs HB hb; (try clear hb); (try clear hb2); (try clear hk); (try clear hi)) | ((with_reducible refine gate_builtin (b := .append) (xs := #[.tmp 24, .tmp 28]) rfl ?_); at_builtin; refine Kd.R_append k60 (w0 := w) w.heap.size rfl (.tmp 24) (.tmp 28) 30 60 (.agg #[(.int .i64 0), (.int .i64 0), (.int .i64 0), (.int .i64 0)]) 32 rfl Try.underlying30 info60 rfl (by decide) (by omega) u6 x6_1 (⟨t299, t300, t301, t302⟩ : S60) [.int .i64 t299, .int .i64 t300, .int .i64 t301, .int .i64 t302] (fun k_ => some k_ ≠ (u7 : Value).ownBlock ∧ k_ ≠ gb291) (fun _ => False) rfl rfl ?aP (fun _ hk => hk.elim) ?aF ?aO ?aB ?aS ?aL ?_; (case aP => exact k60_mkM _ _ _ (⟨t299, t300, t301, t302⟩ : S60)); (case aB => exact (zh0 HB)); (case aF => exact (fun k_ hk => ⟨Kd.fresh' (Kd.R_lt (zr0 HO_7)) k_ hk, Kd.freshB (g := gb291) (o := .cells #[.int .i64 ((rd_T60 l0_0 x17_1).f0), .int .i64 ((rd_T60 l0_0 x17_1).f1), .int .i64 ((rd_T60 l0_0 x17_1).f2), .int .i64 ((rd_T60 l0_0 x17_1).f3)] 60 (0, 0)) (zk0 BK291) k_ hk⟩)); (case aO => exact (zr0 HO_6)); (case aS => exact (below_size (zh0 HB))); (case aL => have := LMc47.out; omega); intro v304 w52 ho hb hg hat; rw [← Ny303.out] at ho; have n0_ := Aside0.mk (Kd.R_after (ok := (fun k_ => k_ ≠ gb291)) (by (with_reducible repeat (first | apply Kd.R_alloc | apply Kd.R_drewN | apply Kd.R_drew)); exact Kd.R_mono HO_7.out (fun _ hk => ⟨hk.2, hk.1⟩)) hg hat); have n1_ := Aside0.mk (blk_grown (g := gb283) (o := .cells #[.slice (some ad290) l0_0.length c0_0] 32 (0, 0)) (zk0 BK283) hg (Kd.R_ne HO_6.out BK283.out (by decide))); have n2_ := Aside0.mk (blk_grown (g := gb291) (o := .cells #[.int .i64 ((rd_T60 l0_0 x17_1).f0), .int .i64 ((rd_T60 l0_0 x17_1).f1), .int .i64 ((rd_T60 l0_0 x17_1).f2), .int .i64 ((rd_T60 l0_0 x17_1).f3)] 60 (0, 0)) (zk0 BK291) hg (Kd.R_away HO_6.out (fun _ hk => hk.2))); have n3_ := Aside0.mk (hb); have n4_ := Aside0.mk (ho); clear HO_7; clear BK283; clear BK291; clear HB; clear HO_6; have HO_7 := n0_; have BK283 := n1_; have BK291 := n2_; have HB := n3_; have HO305 := n4_; clear n0_ n1_ n2_ n3_ n4_; clear ho hb hg hat; have hcz53_0 := zc0 BK291 0 rfl; have hcz53_1 := zc0 BK291 1 rfl; have hcz53_2 := zc0 BK291 2 rfl; have hcz53_3 := zc0 BK291 3 rfl; have hfz53_0 := blk_frozen BK291.out 0; have hfz53_1 := blk_frozen BK291.out 1; have hfz53_2 := blk_frozen BK291.out 2; have hfz53_3 := blk_frozen BK291.out 3) | ((with_reducible refine gate_builtin (b := .append) (xs := #[.tmp 30, .tmp 46]) rfl ?_); at_builtin; refine Kd.R_append k60 (w0 := w) w.heap.size rfl (.tmp 30) (.tmp 46) 30 60 (.agg #[(.int .i64 0), (.int .i64 0), (.int .i64 0), (.int .i64 0)]) 32 rfl Try.underlying30 info60 rfl (by decide) (by omega) u7 x7_1 (⟨((rd_T60 l0_0 x17_1).f0), wrap64 (((rd_T60 l0_0 x17_1).f1) + (wrap64 (a1 - x8_1))), wrap64 (((rd_T60 l0_0 x17_1).f2) - (wrap64 (a1 - x8_1))), wrap64 (((rd_T60 l0_0 x17_1).f3) - (wrap64 (a1 - x8_1)))⟩ : S60) [.int .i64 ((rd_T60 l0_0 x17_1).f0), .int .i64 (wrap64 (((rd_T60 l0_0 x17_1).f1) + (wrap64 (a1 - x8_1)))), .int .i64 (wrap64 (((rd_T60 l0_0 x17_1).f2) - (wrap64 (a1 - x8_1)))), .int .i64 (wrap64 (((rd_T60 l0_0 x17_1).f3) - (wrap64 (a1 - x8_1))))] (fun k_ => some k_ ≠ (v304 : Value).ownBlock ∧ k_ ≠ gb291) (fun _ => False) rfl rfl ?aP (fun _ hk => hk.elim) ?aF ?aO ?aB ?aS ?aL ?_; (case aP => exact k60_mkM _ _ _ (⟨((rd_T60 l0_0 x17_1).f0), wrap64 (((rd_T60 l0_0 x17_1).f1) + (wrap64 (a1 - x8_1))), wrap64 (((rd_T60 l0_0 x17_1).f2) - (wrap64 (a1 - x8_1))), wrap64 (((rd_T60 l0_0 x17_1).f3) - (wrap64 (a1 - x8_1)))⟩ : S60)); (case aB => exact (zh0 HB)); (case aF => exact (fun k_ hk => ⟨Kd.fresh' (Kd.R_lt (zr0 HO305)) k_ hk, Kd.freshB (g := gb291) (o := .cells #[.int .i64 ((rd_T60 l0_0 x17_1).f0), .int .i64 ((rd_T60 l0_0 x17_1).f1), .int .i64 ((rd_T60 l0_0 x17_1).f2), .int .i64 ((rd_T60 l0_0 x17_1).f3)] 60 (0, 0)) (zk0 BK291) k_ hk⟩)); (case aO => exact (by (with_reducible repeat (first | apply Kd.R_alloc | apply Kd.R_drewN | apply Kd.R_drew)); exact Kd.R_mono HO_7.out (fun _ hk => ⟨hk.2, hk.1⟩))); (case aS => exact (below_size (zh0 HB))); (case aL => have := LMc48.out; omega); intro v307 w54 ho hb hg hat; rw [← Ny306.out] at ho; have n0_ := Aside0.mk (blk_grown (g := gb283) (o := .cells #[.slice (some ad290) l0_0.length c0_0] 32 (0, 0)) (zk0 BK283) hg (Kd.R_ne HO_7.out BK283.out (by decide))); have n1_ := Aside0.mk (blk_grown (g := gb291) (o := .cells #[.int .i64 ((rd_T60 l0_0 x17_1).f0), .int .i64 ((rd_T60 l0_0 x17_1).f1), .int .i64 ((rd_T60 l0_0 x17_1).f2), .int .i64 ((rd_T60 l0_0 x17_1).f3)] 60 (0, 0)) (zk0 BK291) hg (Kd.R_away HO_7.out (fun _ hk => hk.1))); have n2_ := Aside0.mk (Kd.R_after (ok := (fun k_ => k_ ≠ gb291)) (by (with_reducible repeat (first | apply Kd.R_alloc | apply Kd.R_drewN | apply Kd.R_drew)); exact Kd.R_mono HO305.out (fun _ hk => ⟨hk.2, hk.1⟩)) hg hat); have n3_ := Aside0.mk (hb); have n4_ := Aside0.mk (ho); clear BK283; clear BK291; clear HO305; clear HB; clear HO_7; have BK283 := n0_; have BK291 := n1_; have HO305 := n2_; have HB := n3_; have HO308 := n4_; clear n0_ n1_ n2_ n3_ n4_; clear ho hb hg hat; have hcz55_0 := zc0 BK291 0 rfl; have hcz55_1 := zc0 BK291 1 rfl; have hcz55_2 := zc0 BK291 2 rfl; have hcz55_3 := zc0 BK291 3 rfl; have hfz55_0 := blk_frozen BK291.out 0; have hfz55_1 := blk_frozen BK291.out 1; have hfz55_2 := blk_frozen BK291.out 2; have hfz55_3 := blk_frozen BK291.out 3))
              go_roundg kj26
              case measure => have := HK1.out; have := HJ11.out; have := HJ26.out; omega
              case rel => exact ⟨(y303), (y306), (wrap64 (x8_1 + ((rd_T60 l0_0 x17_1).f2))), (wrap64 (x17_1 + 1)), (by first | rfl | (simp; done) | (simp [*]; done)), (by first | rfl | (simp; done) | (simp [*]; done)), H', ⟨by have := HK1.out; have := HJ11.out; have := HJ26.out; omega⟩, ⟨by (with_reducible repeat (first | apply Kd.R_alloc | apply Kd.R_drewN | apply Kd.R_drew)); exact Kd.R_mono HO305.out (fun _ hk => hk.2)⟩, ⟨by (with_reducible repeat (first | apply Kd.R_alloc | apply Kd.R_drewN | apply Kd.R_drew)); exact Kd.R_mono HO308.out (fun _ hk => hk.1)⟩, ⟨zk0 BK283⟩, ⟨by repeat (first | exact zh0 HB | refine below_set ?_ GE283.out | refine below_set ?_ GE291.out)⟩⟩
             ·rw [if_neg c48] at H
              exact absurd H (by simp)
            ·rw [if_neg c47] at H
             exact absurd H (by simp)
     ·rw [if_neg c11] at H
      exact absurd H (by simp)
    ·rw [if_neg c10] at H
     exact absurd H (by simp)
   ·rw [if_neg c9] at H
    have c9b0 : decide (x17_1 < (l0_0.length : Int)) = false := decide_eq_false c9
    clear c9
    simp only [Option.some.injEq, Prod.mk.injEq] at H
    obtain ⟨rfl, rfl⟩ := H
    go_wp2
    go_ret2
    exact ⟨_, _, by first | rfl | (simp <;> rfl) | (simp [*] <;> rfl), zr0 HO_6, zr0 HO_7, by repeat (first | exact zh0 HB | refine below_set ?_ GE283.out)⟩

open Go.Proofs.Ytdojnaghcfhadad.Cp
/-! ### impl_Rope_isStretch: function 98 -/
def impl_Rope_isStretch.f (k : Nat) (l0_0 : List (S60)) (a1 : Int) (a2 : Int) : Option (Bool) := (impl_Rope_length.f k l0_0).bind fun t310 => ((impl_within.f a2 0 t310).bind fun t311 => (if t311 = true then ((impl_within.f a1 0 a2).bind fun t312 => (some t312)) else (some false)))
theorem impl_Rope_isStretch.mono : ∀ a0 a1 a2 k, LeO (impl_Rope_isStretch.f k a0 a1 a2) (impl_Rope_isStretch.f (k + 1) a0 a1 a2) := by
 intro a0 a1 a2 k
 unfold impl_Rope_isStretch.f
 repeat' first
   | (with_reducible exact impl_Rope_length.mono _ _)
   | (with_reducible exact LeO.refl _)
   | (with_reducible exact LeO.none _)
   | (with_reducible refine LeO.ite ?_ ?_)
   | (with_reducible refine LeO.bind ?_ (fun _ => ?_))
   | exact impl_Rope_length.mono _ _
   | exact LeO.none _
   | refine LeO.ite ?_ ?_
   | refine LeO.bind ?_ (fun _ => ?_)
set_option maxHeartbeats 8000000 in
set_option maxRecDepth 100000 in
theorem impl_Rope_isStretch.calls (k : Nat) (A0_0 : Option Addr) (c0_0 : Nat) (l0_0 : List (S60)) (a1 : Int) (a2 : Int) (r : Bool) (w : World) (hr0_0 : Kd.C k60 w A0_0 l0_0.length l0_0) (hc0_0 : l0_0.length ≤ c0_0) (h : impl_Rope_isStretch.f k l0_0 a1 a2 = some r) :
  Calls Try.prog 98 #[.agg #[.slice A0_0 l0_0.length c0_0], .int .i64 a1, .int .i64 a2] w fun e w' => e = .returned (.bool r) ∧ Below w.heap.size w w' := by
 have hu32 := Try.underlying32
 have HR0_0 := Aside0.mk hr0_0
 have HC0_0 := Aside0.mk hc0_0
 clear hr0_0 hc0_0
 have HB := Aside0.mk (Below.refl w.heap.size w)
 have H : ((impl_Rope_length.f k l0_0).bind fun t310 => ((impl_within.f a2 0 t310).bind fun t311 => (if t311 = true then ((impl_within.f a1 0 a2).bind fun t312 => (some t312)) else (some false)))) = some r := h
 clear h
 replace H := Option.bind_eq_some_iff.mp H
 obtain ⟨t310, A40, H⟩ := H
 replace H : ((impl_within.f a2 0 t310).bind fun t311 => (if t311 = true then ((impl_within.f a1 0 a2).bind fun t312 => (some t312)) else (some false))) = some r := H
 have A4 := Aside0.mk A40
 clear A40
 replace H := Option.bind_eq_some_iff.mp H
 obtain ⟨t311, A50, H⟩ := H
 replace H : (if t311 = true then ((impl_within.f a1 0 a2).bind fun t312 => (some t312)) else (some false)) = some r := H
 have A5 := Aside0.mk A50
 clear A50
 by_cases c6 : t311 = true
 ·subst c6
  have H1 : ((impl_within.f a1 0 a2).bind fun t312 => (some t312)) = some r := by rw [if_pos rfl] at H; exact H
  clear H
  have H := H1
  clear H1
  replace H := Option.bind_eq_some_iff.mp H
  obtain ⟨t312, A70, H⟩ := H
  replace H : (some t312) = some r := H
  have A7 := Aside0.mk A70
  clear A70
  obtain rfl := Option.some.inj H
  go_enter Try.func98, Try.ntmps98
  go_wp2_with (first | ((with_reducible refine gate_dst (N := 3) rfl ?_); refine box_event ?hg (N := 3) ?hd (cs := #[.slice A0_0 l0_0.length c0_0]) (t := 32) ?hr ?_; (case hd => rfl); (case hg => rfl); (case hr => first | (go_simp; done) | (go_simp; rfl)); intro gb309 hg w8 hbox hb; have BK309 := Aside0.mk (hbox); have GW309 := zge HB hg; have GE309 := zge HB hg; replace HB := zhs HB hb; clear hb hbox hg; have hcz9_0 := zc0 BK309 0 rfl; have hfz9_0 := blk_frozen BK309.out 0) | ((with_reducible refine gate_callee (f := 95) rfl ?_); refine goesL_ (some 9) rfl rfl Try.func95 (by kernel_rfl) rfl #[.agg #[.slice A0_0 l0_0.length c0_0]] rfl (by (try simp only [zq1, zq2, zq3]); first | done | rfl | (simp only [List.length_drop, List.length_take]; rfl)) ?_; (with_reducible refine (impl_Rope_length.calls k _ _ l0_0 t310 _ ?side1 ?side2 A4.out).mono ?_); (case side1 => exact Kd.C_below HR0_0.out (zh0 HB)); (case side2 => exact HC0_0.out); rintro e w10 ⟨rfl, hb⟩; refine ⟨_, rfl, ?_⟩; replace BK309 := zb0 BK309 hb; replace HB := zhs HB hb; (try clear hb)) | ((with_reducible refine gate_callee (f := 94) rfl ?_); refine goesL_ (some 10) rfl rfl Try.func94 (by kernel_rfl) rfl #[.int .i64 a2, .int .i64 0, .int .i64 t310] rfl (by (try simp only [zq1, zq2, zq3]); first | done | rfl | (simp only [List.length_drop, List.length_take]; rfl)) ?_; (with_reducible refine (impl_within.calls a2 0 t310 true _ A5.out).mono ?_); rintro e w' ⟨rfl, ⟨nd, rfl⟩⟩; refine ⟨_, rfl, ?_⟩) | (go_at_call 94; (with_reducible refine (impl_within.calls a1 0 a2 t312 _ A7.out).mono ?_); rintro e w' ⟨rfl, ⟨nd, rfl⟩⟩))
  go_ret
  exact ⟨by first | rfl | (simp <;> rfl) | (simp [*] <;> rfl), by repeat (first | exact zh0 HB | refine below_set ?_ GE309.out)⟩
 ·replace c6 := Bool.eq_false_iff.mpr c6
  subst c6
  have H1 : (some false) = some r := by rw [if_neg (show ¬ (false = true) by decide)] at H; exact H
  clear H
  have H := H1
  clear H1
  obtain rfl := Option.some.inj H
  go_enter Try.func98, Try.ntmps98
  go_wp2_with (first | ((with_reducible refine gate_dst (N := 3) rfl ?_); refine box_event ?hg (N := 3) ?hd (cs := #[.slice A0_0 l0_0.length c0_0]) (t := 32) ?hr ?_; (case hd => rfl); (case hg => rfl); (case hr => first | (go_simp; done) | (go_simp; rfl)); intro gb309 hg w11 hbox hb; have BK309 := Aside0.mk (hbox); have GW309 := zge HB hg; have GE309 := zge HB hg; replace HB := zhs HB hb; clear hb hbox hg; have hcz12_0 := zc0 BK309 0 rfl; have hfz12_0 := blk_frozen BK309.out 0) | ((with_reducible refine gate_callee (f := 95) rfl ?_); refine goesL_ (some 9) rfl rfl Try.func95 (by kernel_rfl) rfl #[.agg #[.slice A0_0 l0_0.length c0_0]] rfl (by (try simp only [zq1, zq2, zq3]); first | done | rfl | (simp only [List.length_drop, List.length_take]; rfl)) ?_; (with_reducible refine (impl_Rope_length.calls k _ _ l0_0 t310 _ ?side1 ?side2 A4.out).mono ?_); (case side1 => exact Kd.C_below HR0_0.out (zh0 HB)); (case side2 => exact HC0_0.out); rintro e w13 ⟨rfl, hb⟩; refine ⟨_, rfl, ?_⟩; replace BK309 := zb0 BK309 hb; replace HB := zhs HB hb; (try clear hb)) | ((with_reducible refine gate_callee (f := 94) rfl ?_); refine goesL_ (some 10) rfl rfl Try.func94 (by kernel_rfl) rfl #[.int .i64 a2, .int .i64 0, .int .i64 t310] rfl (by (try simp only [zq1, zq2, zq3]); first | done | rfl | (simp only [List.length_drop, List.length_take]; rfl)) ?_; (with_reducible refine (impl_within.calls a2 0 t310 false _ A5.out).mono ?_); rintro e w' ⟨rfl, ⟨nd, rfl⟩⟩; refine ⟨_, rfl, ?_⟩))
  go_ret
  exact ⟨by first | rfl | (simp <;> rfl) | (simp [*] <;> rfl), by repeat (first | exact zh0 HB | refine below_set ?_ GE309.out)⟩

open Go.Proofs.Ytdojnaghcfhadad.Cp
/-! ### impl_PartText: function 30 -/
def impl_PartText.j0 : Nat → Int → Int → Bool → List (S60) → Option ((List (S60)) × Bool)
 | 0, _, _, _, _ => none
 | k + 1, x2, x3, x24, x315000 => if x24 = true then (some (([] : List (S60)), false)) else ((impl_Rope_split.f k x315000 x3).bind fun bt318 => ((impl_Rope_split.f k bt318.1 x2).bind fun bt324 => (some (bt324.2, true))))
def impl_PartText.f (k : Nat) (l0_0 : List (List Int)) (l1_0 : List (S60)) (a2 : Int) (a3 : Int) : Option ((List (S60)) × Bool) := (impl_isRope.f k l0_0 l1_0).bind fun t316 => (if t316 = true then ((impl_Rope_isStretch.f k l1_0 a2 a3).bind fun t317 => (impl_PartText.j0 k a2 a3 (!t317) l1_0)) else (impl_PartText.j0 k a2 a3 true l1_0))
theorem impl_PartText.mono_l : ∀ k, (∀ y0 y1 y2 y3, LeO (impl_PartText.j0 k y0 y1 y2 y3) (impl_PartText.j0 (k + 1) y0 y1 y2 y3))
 | 0 => fun _ _ _ _ r h => by simp [impl_PartText.j0] at h
 | k + 1 => by
  have ih0 := impl_PartText.mono_l k
  ·intro y0 y1 y2 y3
   unfold impl_PartText.j0
   repeat' first
   | (with_reducible exact ih0 _ _ _ _)
   | (with_reducible exact impl_Rope_isStretch.mono _ _ _ _)
   | (with_reducible exact impl_Rope_split.mono _ _ _)
   | (with_reducible exact impl_isRope.mono _ _ _)
   | (with_reducible exact LeO.refl _)
   | (with_reducible exact LeO.none _)
   | (with_reducible refine LeO.ite ?_ ?_)
   | (with_reducible refine LeO.bind ?_ (fun _ => ?_))
   | exact ih0 _ _ _ _
   | exact impl_Rope_isStretch.mono _ _ _ _
   | exact impl_Rope_split.mono _ _ _
   | exact impl_isRope.mono _ _ _
   | exact LeO.none _
   | refine LeO.ite ?_ ?_
   | refine LeO.bind ?_ (fun _ => ?_)
theorem impl_PartText.mono : ∀ a0 a1 a2 a3 k, LeO (impl_PartText.f k a0 a1 a2 a3) (impl_PartText.f (k + 1) a0 a1 a2 a3) := by
 intro a0 a1 a2 a3 k
 have ih0 := impl_PartText.mono_l k
 unfold impl_PartText.f
 repeat' first
   | (with_reducible exact ih0 _ _ _ _)
   | (with_reducible exact impl_Rope_isStretch.mono _ _ _ _)
   | (with_reducible exact impl_Rope_split.mono _ _ _)
   | (with_reducible exact impl_isRope.mono _ _ _)
   | (with_reducible exact LeO.refl _)
   | (with_reducible exact LeO.none _)
   | (with_reducible refine LeO.ite ?_ ?_)
   | (with_reducible refine LeO.bind ?_ (fun _ => ?_))
   | exact ih0 _ _ _ _
   | exact impl_Rope_isStretch.mono _ _ _ _
   | exact impl_Rope_split.mono _ _ _
   | exact impl_isRope.mono _ _ _
   | exact LeO.none _
   | refine LeO.ite ?_ ?_
   | refine LeO.bind ?_ (fun _ => ?_)
set_option maxHeartbeats 8000000 in
set_option maxRecDepth 100000 in
theorem impl_PartText.calls (k : Nat) (A0_0 : Option Addr) (c0_0 : Nat) (l0_0 : List (List Int)) (A1_0 : Option Addr) (c1_0 : Nat) (l1_0 : List (S60)) (a2 : Int) (a3 : Int) (r1 : List (S60)) (r2 : Bool) (w : World) (hr0_0 : Kd.C (Kd.slice 5 (Kd.int .u8)) w A0_0 l0_0.length l0_0) (hc0_0 : l0_0.length ≤ c0_0) (hr1_0 : Kd.C k60 w A1_0 l1_0.length l1_0) (hc1_0 : l1_0.length ≤ c1_0) (h : impl_PartText.f k l0_0 l1_0 a2 a3 = some (r1, r2)) :
  Calls Try.prog 30 #[.agg #[.slice A0_0 l0_0.length c0_0], .agg #[.slice A1_0 l1_0.length c1_0], .int .i64 a2, .int .i64 a3] w fun e w' => ∃ v0_ : Value, e = .returned (.tuple #[.agg #[v0_], .bool r2]) ∧ Kd.R k60 60 w' w.heap.size (fun _ => True) v0_ r1 ∧ Below w.heap.size w w' := by
 have hu35 := Try.underlying35
 have hu32 := Try.underlying32
 have HR0_0 := Aside0.mk hr0_0
 have HC0_0 := Aside0.mk hc0_0
 clear hr0_0 hc0_0
 have HR1_0 := Aside0.mk hr1_0
 have HC1_0 := Aside0.mk hc1_0
 clear hr1_0 hc1_0
 have HB := Aside0.mk (Below.refl w.heap.size w)
 have H : ((impl_isRope.f k l0_0 l1_0).bind fun t316 => (if t316 = true then ((impl_Rope_isStretch.f k l1_0 a2 a3).bind fun t317 => (impl_PartText.j0 k a2 a3 (!t317) l1_0)) else (impl_PartText.j0 k a2 a3 true l1_0))) = some (r1, r2) := h
 clear h
 have HC5 := Aside0.mk H
 clear H
 go_enter Try.func30, Try.ntmps30
 go_upto_region 1 with (first | ((with_reducible refine gate_dst (N := 4) rfl ?_); refine box_event ?hg (N := 4) ?hd (cs := #[.slice A0_0 l0_0.length c0_0]) (t := 35) ?hr ?_; (case hd => rfl); (case hg => rfl); (case hr => first | (go_simp; done) | (go_simp; rfl)); intro gb313 hg w6 hbox hb; have BK313 := Aside0.mk (hbox); have GW313 := zge HB hg; have GE313 := zge HB hg; replace HB := zhs HB hb; clear hb hbox hg) | ((with_reducible refine gate_dst (N := 5) rfl ?_); refine box_event ?hg (N := 5) ?hd (cs := #[.slice A1_0 l1_0.length c1_0]) (t := 32) ?hr ?_; (case hd => rfl); (case hg => rfl); (case hr => first | (go_simp; done) | (go_simp; rfl)); intro gb314 hg w7 hbox hb; have BK314 := Aside0.mk (hbox); have GW314 := zge HB hg; have GE314 := zge HB hg; have NB313_314 := znl BK313 hg; have NB314_313 := znr BK313 hg; replace BK313 := zb0 BK313 hb; replace HB := zhs HB hb; clear hb hbox hg) | ((with_reducible refine gate_dst (N := 8) rfl ?_); refine box_event ?hg (N := 8) ?hd (cs := #[.slice none 0 0]) (t := 32) ?hr ?_; (case hd => rfl); (case hg => rfl); (case hr => first | (go_simp; done) | (go_simp; rfl)); intro gb315 hg w8 hbox hb; have BK315 := Aside0.mk (hbox); have GW315 := zge HB hg; have GE315 := zge HB hg; have NB313_315 := znl BK313 hg; have NB315_313 := znr BK313 hg; have NB314_315 := znl BK314 hg; have NB315_314 := znr BK314 hg; replace BK313 := zb0 BK313 hb; replace BK314 := zb0 BK314 hb; replace HB := zhs HB hb; clear hb hbox hg))
 (try simp only [Act.put, zp1, zp2, zp3])
 go_cut [24] (fun v24 wc => ∃ (kq : Nat) (x24_4 : Bool), v24 = .bool x24_4 ∧ Aside0 (impl_PartText.j0 kq a2 a3 x24_4 l1_0 = some (r1, r2)) ∧ Aside0 (kq ≤ k) ∧ Aside0 (wc.heap[gb313]? = some (.cells #[(.slice A0_0 l0_0.length c0_0)] 35 (0, 0))) ∧ Aside0 (wc.heap[gb314]? = some (.cells #[(.slice A1_0 l1_0.length c1_0)] 32 (0, 0))) ∧ Aside0 (wc.heap[gb315]? = some (.cells #[(.slice none 0 0)] 32 (0, 0))) ∧ Aside0 (Below w.heap.size w wc))
 case first =>
  have H := HC5.out
  clear HC5
  replace H := Option.bind_eq_some_iff.mp H
  obtain ⟨t316, A90, H⟩ := H
  replace H : (if t316 = true then ((impl_Rope_isStretch.f k l1_0 a2 a3).bind fun t317 => (impl_PartText.j0 k a2 a3 (!t317) l1_0)) else (impl_PartText.j0 k a2 a3 true l1_0)) = some (r1, r2) := H
  have A9 := Aside0.mk A90
  clear A90
  by_cases c10 : t316 = true
  ·subst c10
   have H1 : ((impl_Rope_isStretch.f k l1_0 a2 a3).bind fun t317 => (impl_PartText.j0 k a2 a3 (!t317) l1_0)) = some (r1, r2) := by rw [if_pos rfl] at H; exact H
   clear H
   have H := H1
   clear H1
   replace H := Option.bind_eq_some_iff.mp H
   obtain ⟨t317, A110, H⟩ := H
   replace H : (impl_PartText.j0 k a2 a3 (!t317) l1_0) = some (r1, r2) := H
   have A11 := Aside0.mk A110
   clear A110
   have H' := Aside0.mk H
   clear H
   have hnb12 := NB313_314.out
   have hnc12 := NB314_313.out
   have hnb13 := NB313_315.out
   have hnc13 := NB315_313.out
   have hcz14_0 := zc0 BK313 0 rfl
   have hfz14_0 := blk_frozen BK313.out 0
   have hnb15 := NB314_315.out
   have hnc15 := NB315_314.out
   have hcz16_0 := zc0 BK314 0 rfl
   have hfz16_0 := blk_frozen BK314.out 0
   go_wp2_with (first | ((with_reducible refine gate_callee (f := 82) rfl ?_); refine goesL_ (some 16) rfl rfl Try.func82 (by kernel_rfl) rfl #[.agg #[.slice A0_0 l0_0.length c0_0], .agg #[.slice A1_0 l1_0.length c1_0]] rfl (by (try simp only [zq1, zq2, zq3]); first | done | rfl | (simp only [List.length_drop, List.length_take]; rfl)) ?_; (with_reducible refine (impl_isRope.calls k _ _ l0_0 _ _ l1_0 true _ ?side1 ?side2 ?side3 ?side4 A9.out).mono ?_); (case side1 => exact Kd.C_below HR0_0.out (zh0 HB)); (case side2 => exact HC0_0.out); (case side3 => exact Kd.C_below HR1_0.out (zh0 HB)); (case side4 => exact HC1_0.out); rintro e w17 ⟨rfl, hb⟩; refine ⟨_, rfl, ?_⟩; replace BK313 := zb0 BK313 hb; replace BK314 := zb0 BK314 hb; replace BK315 := zb0 BK315 hb; replace HB := zhs HB hb; (try clear hb); have hcz18_0 := zc0 BK314 0 rfl; have hfz18_0 := blk_frozen BK314.out 0) | (go_at_call 98; (with_reducible refine (impl_Rope_isStretch.calls k _ _ l1_0 a2 a3 t317 _ ?side1 ?side2 A11.out).mono ?_); (case side1 => exact Kd.C_below HR1_0.out (zh0 HB)); (case side2 => exact HC1_0.out); rintro e w19 ⟨rfl, hb⟩; replace BK313 := zb0 BK313 hb; replace BK314 := zb0 BK314 hb; replace BK315 := zb0 BK315 hb; replace HB := zhs HB hb; (try clear hb)))
   go_meet
   case rel => exact ⟨_, (!t317), (by first | rfl | (simp; done) | (simp [*]; done)), H', ⟨by first | omega | exact Nat.le_refl _⟩, ⟨zk0 BK313⟩, ⟨zk0 BK314⟩, ⟨zk0 BK315⟩, ⟨by repeat (first | exact zh0 HB | refine below_set ?_ GE313.out | refine below_set ?_ GE314.out | refine below_set ?_ GE315.out)⟩⟩
  ·replace c10 := Bool.eq_false_iff.mpr c10
   subst c10
   have H1 : (impl_PartText.j0 k a2 a3 true l1_0) = some (r1, r2) := by rw [if_neg (show ¬ (false = true) by decide)] at H; exact H
   clear H
   have H := H1
   clear H1
   have H' := Aside0.mk H
   clear H
   have hnb20 := NB313_314.out
   have hnc20 := NB314_313.out
   have hnb21 := NB313_315.out
   have hnc21 := NB315_313.out
   have hcz22_0 := zc0 BK313 0 rfl
   have hfz22_0 := blk_frozen BK313.out 0
   have hnb23 := NB314_315.out
   have hnc23 := NB315_314.out
   have hcz24_0 := zc0 BK314 0 rfl
   have hfz24_0 := blk_frozen BK314.out 0
   go_wp2_with (first | ((with_reducible refine gate_callee (f := 82) rfl ?_); refine goesL_ (some 16) rfl rfl Try.func82 (by kernel_rfl) rfl #[.agg #[.slice A0_0 l0_0.length c0_0], .agg #[.slice A1_0 l1_0.length c1_0]] rfl (by (try simp only [zq1, zq2, zq3]); first | done | rfl | (simp only [List.length_drop, List.length_take]; rfl)) ?_; (with_reducible refine (impl_isRope.calls k _ _ l0_0 _ _ l1_0 false _ ?side1 ?side2 ?side3 ?side4 A9.out).mono ?_); (case side1 => exact Kd.C_below HR0_0.out (zh0 HB)); (case side2 => exact HC0_0.out); (case side3 => exact Kd.C_below HR1_0.out (zh0 HB)); (case side4 => exact HC1_0.out); rintro e w25 ⟨rfl, hb⟩; refine ⟨_, rfl, ?_⟩; replace BK313 := zb0 BK313 hb; replace BK314 := zb0 BK314 hb; replace BK315 := zb0 BK315 hb; replace HB := Aside0.mk (below_step (by repeat (first | exact zh0 HB | refine below_set ?_ GE313.out | refine below_set ?_ GE314.out | refine below_set ?_ GE315.out)) hb); (try clear hb)))
   go_meet
   case rel => exact ⟨_, (true), (by first | rfl | (simp; done) | (simp [*]; done)), H', ⟨by first | omega | exact Nat.le_refl _⟩, ⟨zk0 BK313⟩, ⟨zk0 BK314⟩, ⟨zk0 BK315⟩, ⟨by repeat (first | exact zh0 HB | refine below_set ?_ GE313.out | refine below_set ?_ GE314.out | refine below_set ?_ GE315.out)⟩⟩
 case rest =>
  clear HC5
  try clear c1
  try clear c2
  try clear p2
  try clear c3
  try clear c8
  try clear c10
  try clear c12
  try clear c13
  try clear c15
  try clear c20
  try clear c21
  try clear c23
  try clear hcz14_0
  try clear hcz16_0
  try clear hcz18_0
  try clear hcz22_0
  try clear hcz24_0
  try clear hfz14_0
  try clear hfz16_0
  try clear hfz18_0
  try clear hfz22_0
  try clear hfz24_0
  obtain ⟨kq, x24_4, rfl, HA, HJ4, BK313, BK314, BK315, HB⟩ := hcut
  cases kq with
  | zero => exact absurd HA.out (by simp [impl_PartText.j0])
  | succ kj4 =>
   have H := HA.out
   clear HA
   simp only [impl_PartText.j0] at H
   by_cases c26 : x24_4 = true
   ·subst c26
    have H1 : (some (([] : List (S60)), false)) = some (r1, r2) := by rw [if_pos rfl] at H; exact H
    clear H
    have H := H1
    clear H1
    simp only [Option.some.injEq, Prod.mk.injEq] at H
    obtain ⟨rfl, rfl⟩ := H
    have hnb27 := NB315_313.out
    have hnc27 := NB313_315.out
    have hnb28 := NB315_314.out
    have hnc28 := NB314_315.out
    have hcz29_0 := zc0 BK315 0 rfl
    have hfz29_0 := blk_frozen BK315.out 0
    go_wp2
    refine bodyPost_ret (results_ct rfl _ _ gb315 32 #[.slice none 0 0] (0, 0) _ rfl (by (with_reducible repeat (first | refine blk_drewN ?_ _ | refine blk_drew ?_ | refine blk_alloc ?_ _)); refine blk_put (cs := #[.slice none 0 0]) ?_ 0 _ rfl; (with_reducible repeat (first | refine blk_drewN ?_ _ | refine blk_drew ?_ | refine blk_alloc ?_ _)); exact BK315.out) Try.underlying32 rfl (by kernel_rfl)) rfl ?_
    exact ⟨_, by first | rfl | (simp <;> rfl) | (simp [*] <;> rfl), by first | exact Kd.R_nil _ _ _ _ _ | exact Kd.N_nil _ _ _ _ _ | exact Kd.V_nil _ _ _ _ _ | exact Kd.Q_nil _ _ _ _ _ | exact Kd.S_nil _ _ _ _ _, by repeat (first | exact zh0 HB | refine below_set ?_ GE313.out | refine below_set ?_ GE314.out | refine below_set ?_ GE315.out)⟩
   ·replace c26 := Bool.eq_false_iff.mpr c26
    subst c26
    have H1 : ((impl_Rope_split.f kj4 l1_0 a3).bind fun bt318 => ((impl_Rope_split.f kj4 bt318.1 a2).bind fun bt324 => (some (bt324.2, true)))) = some (r1, r2) := by rw [if_neg (show ¬ (false = true) by decide)] at H; exact H
    clear H
    have H := H1
    clear H1
    replace H := Option.bind_eq_some_iff.mp H
    obtain ⟨⟨t318, t321⟩, A300, H⟩ := H
    replace H : ((impl_Rope_split.f kj4 t318 a2).bind fun bt324 => (some (bt324.2, true))) = some (r1, r2) := H
    have A30 := Aside0.mk A300
    clear A300
    replace H := Option.bind_eq_some_iff.mp H
    obtain ⟨⟨t324, t327⟩, A310, H⟩ := H
    replace H : (some (t327, true)) = some (r1, r2) := H
    have A31 := Aside0.mk A310
    clear A310
    simp only [Option.some.injEq, Prod.mk.injEq] at H
    obtain ⟨rfl, rfl⟩ := H
    have hnb32 := NB314_313.out
    have hnc32 := NB313_314.out
    have hnb33 := NB314_315.out
    have hnc33 := NB315_314.out
    have hcz34_0 := zc0 BK314 0 rfl
    have hfz34_0 := blk_frozen BK314.out 0
    go_wp2_with (first | ((with_reducible refine gate_callee (f := 96) rfl ?_); refine goesL_ (some 29) rfl rfl Try.func96 (by kernel_rfl) rfl #[.agg #[.slice A1_0 l1_0.length c1_0], .int .i64 a3] rfl (by (try simp only [zq1, zq2, zq3]); first | done | rfl | (simp only [List.length_drop, List.length_take]; rfl)) ?_; (with_reducible refine (impl_Rope_split.calls kj4 _ _ l1_0 a3 t318 t321 _ ?side1 ?side2 A30.out).mono ?_); (case side1 => exact Kd.C_below HR1_0.out (zh0 HB)); (case side2 => exact HC1_0.out); rintro e w35 ⟨v319, v322, rfl, ho0, ho1, hb⟩; refine ⟨_, rfl, ?_⟩; have HO320 := Aside0.mk (Kd.R_lower ho0 (below_size (zh0 HB))); have HO323 := Aside0.mk (Kd.R_lower ho1 (below_size (zh0 HB))); replace BK313 := zb0 BK313 hb; replace BK314 := zb0 BK314 hb; replace BK315 := zb0 BK315 hb; replace HB := zhs HB hb; (try clear hb); (try clear ho0); (try clear ho1); obtain ⟨Ao36, co36, eo36⟩ := Kd.R_slice HO320.out; subst eo36) | ((with_reducible refine gate_callee (f := 96) rfl ?_); refine goesL_ (some 36) rfl rfl Try.func96 (by kernel_rfl) rfl #[.agg #[.slice Ao36 t318.length co36], .int .i64 a2] rfl (by (try simp only [zq1, zq2, zq3]); first | done | rfl | (simp only [List.length_drop, List.length_take]; rfl)) ?_; (with_reducible refine (impl_Rope_split.calls kj4 _ _ t318 a2 t324 t327 _ ?side1 ?side2 A31.out).mono ?_); (case side1 => repeat (first | exact (Kd.R_reads' HO320.out).2.2 | (with_reducible refine Kd.C_alloc ?_ _) | (with_reducible refine Kd.C_drewN ?_ _) | (with_reducible refine Kd.C_drew ?_))); (case side2 => exact (Kd.R_reads' HO320.out).2.1); rintro e w37 ⟨v325, v328, rfl, ho0, ho1, hb⟩; refine ⟨_, rfl, ?_⟩; have HO326 := Aside0.mk (Kd.R_lower (Kd.R_new' (Kd.R_new' ho0 (Kd.R_lt (zr0 HO320))) (Kd.R_lt (zr0 HO323))) (below_size (by repeat (first | exact zh0 HB | refine below_set ?_ GE313.out | refine below_set ?_ GE314.out | refine below_set ?_ GE315.out)))); have HO329 := Aside0.mk (Kd.R_lower (Kd.R_new' (Kd.R_new' ho1 (Kd.R_lt (zr0 HO320))) (Kd.R_lt (zr0 HO323))) (below_size (by repeat (first | exact zh0 HB | refine below_set ?_ GE313.out | refine below_set ?_ GE314.out | refine below_set ?_ GE315.out)))); replace HO320 := Aside0.mk (Kd.R_mono (Kd.R_told (Kd.R_told (Kd.R_old (zr0 HO320) hb) (Kd.R_base ho0)) (Kd.R_base ho1)) (fun _ h_ => h_.1)); replace HO323 := Aside0.mk (Kd.R_mono (Kd.R_told (Kd.R_told (Kd.R_old (zr0 HO323) hb) (Kd.R_base ho0)) (Kd.R_base ho1)) (fun _ h_ => h_.1)); replace BK313 := zb0 BK313 hb; replace BK314 := zb0 BK314 hb; replace BK315 := zb0 BK315 hb; replace HB := Aside0.mk (below_step (by repeat (first | exact zh0 HB | refine below_set ?_ GE313.out | refine below_set ?_ GE314.out | refine below_set ?_ GE315.out)) hb); (try clear hb); (try clear ho0); (try clear ho1); obtain ⟨Ao38, co38, eo38⟩ := Kd.R_slice HO329.out; subst eo38; have hnb39 := NB315_313.out; have hnc39 := NB313_315.out; have hcz40_0 := zc0 BK315 0 rfl; have hfz40_0 := blk_frozen BK315.out 0))
    refine bodyPost_ret (results_ct rfl _ _ gb315 32 #[.slice Ao38 t327.length co38] (0, 0) _ rfl (by (with_reducible repeat (first | refine blk_drewN ?_ _ | refine blk_drew ?_ | refine blk_alloc ?_ _)); refine blk_put (cs := #[.slice none 0 0]) ?_ 0 _ rfl; (with_reducible repeat (first | refine blk_drewN ?_ _ | refine blk_drew ?_ | refine blk_alloc ?_ _)); exact BK315.out) Try.underlying32 rfl (by kernel_rfl)) rfl ?_
    exact ⟨_, by first | rfl | (simp <;> rfl) | (simp [*] <;> rfl), by (with_reducible repeat (first | apply Kd.R_alloc | apply Kd.R_drewN | apply Kd.R_drew)); exact Kd.R_mono (Kd.R_far (p := ⟨gb315, 0, none⟩) (Kd.R_types HO329.out BK315.out (by decide)) (fun _ hk => hk.2) (.slice Ao38 t327.length co38)) (fun _ hk => trivial), by repeat (first | exact zh0 HB | refine below_set ?_ GE313.out | refine below_set ?_ GE314.out | refine below_set ?_ GE315.out)⟩

end Go.Proofs.Ytdojnaghcfhadad.PFnExactPartText
