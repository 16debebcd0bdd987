/- What is proved here: each Go function that is named below answers, and leaves memory, as the theorem of its name says; no condition beyond those that each theorem states. Laid by this session's own program (wip/driver.py) over the kit's print. -/
import Derived.Test.YtkifenbcepicjabPFnGrowthx0
import Derived.Test.YtkifenbcepicjabPFnGrowthx2
import Derived.Test.YtkifenbcepicjabPFnGrowthx3
namespace Go.Proofs.Ytkifenbcepicjab.PFnGrowth
open Go.RowKit Go.Proofs.YtkifenbcepicjabW.PrintWords Go.Proofs.YtkifenbcepicjabW.PrintLast Go.Proofs.YtkifenbcepicjabW.PrintMore
attribute [local go_sem] max2_int min2_int max_two min_two max_three min_three max_four min_four   -- for this text's walks alone
set_option linter.unusedVariables false
set_option linter.unusedSimpArgs false

open Go.Proofs.Ytkifenbcepicjab.Cp
/-! ### spec_l4All: function 78 -/
mutual
def spec_l4All.j0 : Nat → Int → List Int → Bool → Int → Int → Int → List Int → Int → Int → Int → Int → Int → Option (List Int × Int × Int × Int × Int × Int × Bool)
 | 0, _, _, _, _, _, _, _, _, _, _, _, _ => none
 | k + 1, x1, x2, x21, x212000, x212001, x212002, x217000, x217001, x217002, x217003, x217004, x217005 => if x21 = true then (some (x217000, x217001, x217002, x217003, x217004, x217005, false)) else (spec_l4All.l0 k x1 x2 0 x212000 x212001 x212002 x217000 x217001 x217002 x217003 x217004 x217005)
def spec_l4All.l0 : Nat → Int → List Int → Int → Int → Int → Int → List Int → Int → Int → Int → Int → Int → Option (List Int × Int × Int × Int × Int × Int × Bool)
 | 0, _, _, _, _, _, _, _, _, _, _, _, _ => none
 | k + 1, x1, x2, x9, x212000, x212001, x212002, x217000, x217001, x217002, x217003, x217004, x217005 => if x9 < (x2.length : Int) then (if 0 ≤ x9 then ((spec_l4Do.f k x212000 x212001 x212002 x1 x217000 x217001 x217002 x217003 x217004 x217005 (rd x2 x9)).bind fun bt219 => (if bt219.2.2.2.2.2.2 = true then ((spec_l1Own.f bt219.1).bind fun t229 => ((some (([bt219.2.2.2.2.2.1] : List Int) : List Int)).bind fun y232 => (if t229.length + y232.length < 17592186044416 then (spec_l4All.l0 k x1 x2 (wrap64 (x9 + 1)) x212000 x212001 x212002 (t229 ++ y232) bt219.2.1 bt219.2.2.1 bt219.2.2.2.1 bt219.2.2.2.2.1 bt219.2.2.2.2.2.1) else (none)))) else (some ((([] : List Int)), 0, 0, 0, 0, 0, false)))) else (none)) else (some (x217000, x217001, x217002, x217003, x217004, x217005, true))
end
def spec_l4All.f (k : Nat) (a0_0 : Int) (a0_1 : Int) (a0_2 : Int) (a1 : Int) (l2 : List Int) : Option (List Int × Int × Int × Int × Int × Int × Bool) := (some (([] : List Int) : List Int)).bind fun y213 => ((spec_l4Rule.f a0_0 a0_1 a0_2).bind fun t217 => (if t217 = true then (spec_l4All.j0 k a1 l2 (decide ((l2.length : Int) > 40)) a0_0 a0_1 a0_2 y213 0 0 0 0 0) else (spec_l4All.j0 k a1 l2 true a0_0 a0_1 a0_2 y213 0 0 0 0 0)))
theorem spec_l4All.mono_l : ∀ k, (∀ y0 y1 y2 y3 y4 y5 y6 y7 y8 y9 y10 y11, LeO (spec_l4All.j0 k y0 y1 y2 y3 y4 y5 y6 y7 y8 y9 y10 y11) (spec_l4All.j0 (k + 1) y0 y1 y2 y3 y4 y5 y6 y7 y8 y9 y10 y11)) ∧ (∀ y0 y1 y2 y3 y4 y5 y6 y7 y8 y9 y10 y11, LeO (spec_l4All.l0 k y0 y1 y2 y3 y4 y5 y6 y7 y8 y9 y10 y11) (spec_l4All.l0 (k + 1) y0 y1 y2 y3 y4 y5 y6 y7 y8 y9 y10 y11))
 | 0 => ⟨fun _ _ _ _ _ _ _ _ _ _ _ _ r h => by simp [spec_l4All.j0] at h, fun _ _ _ _ _ _ _ _ _ _ _ _ r h => by simp [spec_l4All.l0] at h⟩
 | k + 1 => by
  obtain ⟨ih0, ih1⟩ := spec_l4All.mono_l k
  refine ⟨?_, ?_⟩
  ·intro y0 y1 y2 y3 y4 y5 y6 y7 y8 y9 y10 y11
   unfold spec_l4All.j0
   repeat' first
   | (with_reducible exact ih0 _ _ _ _ _ _ _ _ _ _ _ _)
   | (with_reducible exact ih1 _ _ _ _ _ _ _ _ _ _ _ _)
   | (with_reducible exact spec_l4Do.mono _ _ _ _ _ _ _ _ _ _ _ _)
   | (with_reducible exact LeO.refl _)
   | (with_reducible exact LeO.none _)
   | (with_reducible refine LeO.ite ?_ ?_)
   | (with_reducible refine LeO.bind ?_ (fun _ => ?_))
   | exact ih0 _ _ _ _ _ _ _ _ _ _ _ _
   | exact ih1 _ _ _ _ _ _ _ _ _ _ _ _
   | exact spec_l4Do.mono _ _ _ _ _ _ _ _ _ _ _ _
   | exact LeO.none _
   | refine LeO.ite ?_ ?_
   | refine LeO.bind ?_ (fun _ => ?_)
  ·intro y0 y1 y2 y3 y4 y5 y6 y7 y8 y9 y10 y11
   unfold spec_l4All.l0
   repeat' first
   | (with_reducible exact ih0 _ _ _ _ _ _ _ _ _ _ _ _)
   | (with_reducible exact ih1 _ _ _ _ _ _ _ _ _ _ _ _)
   | (with_reducible exact spec_l4Do.mono _ _ _ _ _ _ _ _ _ _ _ _)
   | (with_reducible exact LeO.refl _)
   | (with_reducible exact LeO.none _)
   | (with_reducible refine LeO.ite ?_ ?_)
   | (with_reducible refine LeO.bind ?_ (fun _ => ?_))
   | exact ih0 _ _ _ _ _ _ _ _ _ _ _ _
   | exact ih1 _ _ _ _ _ _ _ _ _ _ _ _
   | exact spec_l4Do.mono _ _ _ _ _ _ _ _ _ _ _ _
   | exact LeO.none _
   | refine LeO.ite ?_ ?_
   | refine LeO.bind ?_ (fun _ => ?_)
theorem spec_l4All.mono : ∀ a0 a1 a2 a3 a4 k, LeO (spec_l4All.f k a0 a1 a2 a3 a4) (spec_l4All.f (k + 1) a0 a1 a2 a3 a4) := by
 intro a0 a1 a2 a3 a4 k
 obtain ⟨ih0, ih1⟩ := spec_l4All.mono_l k
 unfold spec_l4All.f
 repeat' first
   | (with_reducible exact ih0 _ _ _ _ _ _ _ _ _ _ _ _)
   | (with_reducible exact ih1 _ _ _ _ _ _ _ _ _ _ _ _)
   | (with_reducible exact spec_l4Do.mono _ _ _ _ _ _ _ _ _ _ _ _)
   | (with_reducible exact LeO.refl _)
   | (with_reducible exact LeO.none _)
   | (with_reducible refine LeO.ite ?_ ?_)
   | (with_reducible refine LeO.bind ?_ (fun _ => ?_))
   | exact ih0 _ _ _ _ _ _ _ _ _ _ _ _
   | exact ih1 _ _ _ _ _ _ _ _ _ _ _ _
   | exact spec_l4Do.mono _ _ _ _ _ _ _ _ _ _ _ _
   | exact LeO.none _
   | refine LeO.ite ?_ ?_
   | refine LeO.bind ?_ (fun _ => ?_)
def spec_l4All.T7 : Bool × List (List Nat × List Nat) := (true, [([], []), ([], []), ([], []), ([], []), ([], []), ([3, 4], [3, 4]), ([5], [5]), ([0, 1, 2, 6], [0, 1, 2, 6]), ([7], [7]), ([8], [8]), ([8], [8]), ([], []), ([11, 9, 7, 0, 1, 2, 3, 4, 5, 6, 7, 8, 9, 11], [9, 11]), ([10, 12, 0, 1, 2, 3, 4, 5, 6, 7, 8, 9, 10, 11, 12], [10])])
def spec_l4All.B7 : List Nat := [0, 0, 0, 0, 0, 24, 56, 127, 255, 511, 511, 0, 3071, 8191]
theorem spec_l4All.tab7 : rtab .any (opsOf Try.f78 7) = spec_l4All.T7 := by kernel_rfl
theorem spec_l4All.bits7 : waitsOk spec_l4All.T7.2 spec_l4All.B7 = true := by kernel_rfl
def spec_l4All.T11 : Bool × List (List Nat × List Nat) := (true, [([], []), ([0], [0]), ([1], [1]), ([], []), ([3], [3]), ([4], [4]), ([2, 5, 2], [2, 5]), ([0, 1, 2, 3, 4, 5, 6], []), ([7, 6, 6, 0, 1, 2, 3, 4, 5, 6], [6, 7])])
def spec_l4All.B11 : List Nat := [0, 1, 3, 0, 8, 24, 63, 127, 255]
theorem spec_l4All.tab11 : rtab .any (opsOf Try.f78 11) = spec_l4All.T11 := by kernel_rfl
theorem spec_l4All.bits11 : waitsOk spec_l4All.T11.2 spec_l4All.B11 = true := by kernel_rfl
set_option maxHeartbeats 8000000 in
set_option maxRecDepth 100000 in
theorem spec_l4All.calls (k : Nat) (a0_0 : Int) (a0_1 : Int) (a0_2 : Int) (a1 : Int) (A2 : Option Addr) (c2 : Nat) (l2 : List Int) (r1 : List Int) (r2 : Int) (r3 : Int) (r4 : Int) (r5 : Int) (r6 : Int) (r7 : Bool) (w : World) (hr2 : Kd.C (Kd.int .i64) w A2 l2.length l2) (hc2 : l2.length ≤ c2) (h : spec_l4All.f k a0_0 a0_1 a0_2 a1 l2 = some (r1, r2, r3, r4, r5, r6, r7)) :
  Calls Try.prog 78 #[.agg #[.int .i64 a0_0, .int .i64 a0_1, .int .i64 a0_2], .int .i64 a1, .slice A2 l2.length c2] w fun e w' => ∃ v0_ : Value, e = .returned (.tuple #[.agg #[v0_, .int .i64 r2, .int .i64 r3, .int .i64 r4, .int .i64 r5, .int .i64 r6], .bool r7]) ∧ Kd.R (Kd.int .i64) 3 w' w.heap.size (fun _ => True) v0_ r1 ∧ Below w.heap.size w w' := by
 have hu60 := Try.underlying60
 have hu115 := Try.underlying115
 have HR2 := Aside0.mk hr2
 have HC2 := Aside0.mk hc2
 clear hr2 hc2
 have HB := Aside0.mk (Below.refl w.heap.size w)
 have H : ((some (([] : List Int) : List Int)).bind fun y213 => ((spec_l4Rule.f a0_0 a0_1 a0_2).bind fun t217 => (if t217 = true then (spec_l4All.j0 k a1 l2 (decide ((l2.length : Int) > 40)) a0_0 a0_1 a0_2 y213 0 0 0 0 0) else (spec_l4All.j0 k a1 l2 true a0_0 a0_1 a0_2 y213 0 0 0 0 0)))) = some (r1, r2, r3, r4, r5, r6, r7) := h
 clear h
 obtain ⟨y213, hy213⟩ : ∃ y_ : List Int, y_ = (([] : List Int)) := ⟨_, rfl⟩
 replace H : ((spec_l4Rule.f a0_0 a0_1 a0_2).bind fun t217 => (if t217 = true then (spec_l4All.j0 k a1 l2 (decide ((l2.length : Int) > 40)) a0_0 a0_1 a0_2 y213 0 0 0 0 0) else (spec_l4All.j0 k a1 l2 true a0_0 a0_1 a0_2 y213 0 0 0 0 0))) = some (r1, r2, r3, r4, r5, r6, r7) := by first | (rw [hy213]; with_reducible exact H) | (have H2_ := (Option.bind_some _ _).symm.trans H; rw [hy213]; with_reducible exact H2_) | (have H2_ := (Option.bind_some _ _).symm.trans H; with_reducible exact H2_) | with_reducible exact H | (rw [hy213]; exact H) | exact H
 have Ny213 := Aside0.mk hy213
 clear hy213
 have HC4 := Aside0.mk H
 clear H
 go_enter Try.func78, Try.ntmps78
 go_upto_region 2 with (first | ((with_reducible refine gate_dst (N := 3) rfl ?_); (try (refine gate_guard (by rfl) ?_; dsimp only)); refine box_event ?hg (N := 3) ?hd (cs := #[.int .i64 a0_0, .int .i64 a0_1, .int .i64 a0_2]) (t := 60) ?hr ?_; (case hd => rfl); (case hg => rfl); (case hr => first | (go_simp; done) | (go_simp; rfl)); intro gb211 hg w5 hbox hb; have BK211 := Aside0.mk (hbox); have GW211 := zge HB hg; have GE211 := zge HB hg; replace HB := zhs HB hb; clear hb hbox hg) | ((with_reducible refine gate_dst (N := 6) rfl ?_); (try (refine gate_guard (by rfl) ?_; dsimp only)); refine box_event ?hg (N := 6) ?hd (cs := #[.slice none 0 0, .int .i64 0, .int .i64 0, .int .i64 0, .int .i64 0, .int .i64 0]) (t := 115) ?hr ?_; (case hd => rfl); (case hg => rfl); (case hr => first | (go_simp; done) | (go_simp; rfl)); intro gb212 hg w6 hbox hb; have BK212 := Aside0.mk (hbox); have GW212 := zge HB hg; have GE212 := zge HB hg; have NB211_212 := znl BK211 hg; have NB212_211 := znr BK211 hg; replace BK211 := zb0 BK211 hb; replace HB := zhs HB hb; clear hb hbox hg) | ((with_reducible refine gate_dst (N := 12) rfl ?_); (try (refine gate_guard (by rfl) ?_; dsimp only)); refine Kd.R_lit (Kd.int .i64) _ 3 ?hg (N := 12) ?hd (xs := ([] : List Int)) (inner := []) (ok := fun _ => True) (okp := fun _ => True) ?hr ?hp (fun _ hk => hk) trivial (Below.refl _ _) (Nat.le_refl _) (by simp) ?_; (case hd => rfl); (case hg => rfl); (case hr => first | (go_simp; done) | (go_simp; rfl)); (case hp => exact (Reps.none _ _)); intro v214 w7 ho8 hb hg_ hnew_; clear hg_ hnew_; (first | rw [← Ny213.out] at ho8 | (simp only [Int.reduceToNat] at ho8; rw [← Ny213.out] at ho8)); have HO215 := Aside0.mk (Kd.R_lower ho8 (below_size (zh0 HB))); replace BK211 := zb0 BK211 hb; replace BK212 := zb0 BK212 hb; replace HB := zhs HB hb; clear hb ho8; obtain ⟨Ao9, co9, eo9⟩ := Kd.R_slice HO215.out; subst eo9) | ((with_reducible refine gate_dst (N := 8) rfl ?_); (try (refine gate_guard (by rfl) ?_; dsimp only)); refine box_event ?hg (N := 8) ?hd (cs := #[.slice none 0 0, .int .i64 0, .int .i64 0, .int .i64 0, .int .i64 0, .int .i64 0]) (t := 115) ?hr ?_; (case hd => rfl); (case hg => rfl); (case hr => first | (go_simp; done) | (go_simp; rfl)); intro gb216 hg w10 hbox hb; have BK216 := Aside0.mk (hbox); have GW216 := zge HB hg; have GE216 := zge HB hg; have NB211_216 := znl BK211 hg; have NB216_211 := znr BK211 hg; have NB212_216 := znl BK212 hg; have NB216_212 := znr BK212 hg; replace HO215 := zrb HO215 hb; replace BK211 := zb0 BK211 hb; replace BK212 := zb0 BK212 hb; replace HB := zhs HB hb; clear hb hbox hg; have hnb11 := NB216_211.out; have hnc11 := NB211_216.out; have hnb12 := NB216_212.out; have hnc12 := NB212_216.out; have hcz13_0 := zc0 BK216 0 rfl; have hcz13_1 := zc0 BK216 1 rfl; have hcz13_2 := zc0 BK216 2 rfl; have hcz13_3 := zc0 BK216 3 rfl; have hcz13_4 := zc0 BK216 4 rfl; have hcz13_5 := zc0 BK216 5 rfl; have hfz13_0 := blk_frozen BK216.out 0; have hfz13_1 := blk_frozen BK216.out 1; have hfz13_2 := blk_frozen BK216.out 2; have hfz13_3 := blk_frozen BK216.out 3; have hfz13_4 := blk_frozen BK216.out 4; have hfz13_5 := blk_frozen BK216.out 5))
 (try simp only [Act.put, zp1, zp2, zp3])
 go_cut [21] (fun v21 wc => ∃ (kq : Nat) (x21_3 : Bool), v21 = .bool x21_3 ∧ Aside0 (spec_l4All.j0 kq a1 l2 x21_3 a0_0 a0_1 a0_2 y213 0 0 0 0 0 = some (r1, r2, r3, r4, r5, r6, r7)) ∧ Aside0 (kq ≤ k) ∧ Aside0 (Kd.R (Kd.int .i64) 3 wc w.heap.size (fun _ => True) (.slice Ao9 y213.length co9) y213) ∧ Aside0 (wc.heap[gb211]? = some (.cells #[.int .i64 a0_0, .int .i64 a0_1, .int .i64 a0_2] 60 (0, 0))) ∧ Aside0 (wc.heap[gb212]? = some (.cells #[(.slice none 0 0), .int .i64 0, .int .i64 0, .int .i64 0, .int .i64 0, .int .i64 0] 115 (0, 0))) ∧ Aside0 (wc.heap[gb216]? = some (.cells #[(.slice Ao9 y213.length co9), .int .i64 0, .int .i64 0, .int .i64 0, .int .i64 0, .int .i64 0] 115 (0, 0))) ∧ Aside0 (Below w.heap.size w wc))
 case first =>
  have H := HC4.out
  clear HC4
  replace H := Option.bind_eq_some_iff.mp H
  obtain ⟨t217, A140, H⟩ := H
  replace H : (if t217 = true then (spec_l4All.j0 k a1 l2 (decide ((l2.length : Int) > 40)) a0_0 a0_1 a0_2 y213 0 0 0 0 0) else (spec_l4All.j0 k a1 l2 true a0_0 a0_1 a0_2 y213 0 0 0 0 0)) = some (r1, r2, r3, r4, r5, r6, r7) := H
  have A14 := Aside0.mk A140
  clear A140
  by_cases c15 : t217 = true
  ·subst c15
   have H1 : (spec_l4All.j0 k a1 l2 (decide ((l2.length : Int) > 40)) a0_0 a0_1 a0_2 y213 0 0 0 0 0) = some (r1, r2, r3, r4, r5, r6, r7) := by rw [if_pos rfl] at H; exact H
   clear H
   have H := H1
   clear H1
   have H' := Aside0.mk H
   clear H
   have hnb16 := NB211_212.out
   have hnc16 := NB212_211.out
   have hnb17 := NB211_216.out
   have hnc17 := NB216_211.out
   have hcz18_0 := zc0 BK211 0 rfl
   have hcz18_1 := zc0 BK211 1 rfl
   have hcz18_2 := zc0 BK211 2 rfl
   have hfz18_0 := blk_frozen BK211.out 0
   have hfz18_1 := blk_frozen BK211.out 1
   have hfz18_2 := blk_frozen BK211.out 2
   go_wp2_with (first | ((with_reducible refine gate_callee (f := 85) rfl ?_); refine goesL_ (some 15) rfl rfl Try.func85 (by kernel_rfl) rfl #[.agg #[.int .i64 a0_0, .int .i64 a0_1, .int .i64 a0_2]] rfl (by (try simp only [zq1, zq2, zq3]); first | done | rfl | (simp only [List.length_drop, List.length_take]; rfl)) ?_; (with_reducible refine (spec_l4Rule.calls a0_0 a0_1 a0_2 true _ A14.out).mono ?_); rintro e w19 ⟨rfl, hb⟩; refine ⟨_, rfl, ?_⟩; replace HO215 := Aside0.mk (Kd.R_below (by (with_reducible repeat (first | apply Kd.R_alloc | apply Kd.R_drewN | apply Kd.R_drew)); exact (Kd.R_mono (Kd.R_far (p := ⟨gb216, 5, none⟩) (Kd.R_far (p := ⟨gb216, 4, none⟩) (Kd.R_far (p := ⟨gb216, 3, none⟩) (Kd.R_far (p := ⟨gb216, 2, none⟩) (Kd.R_far (p := ⟨gb216, 1, none⟩) (Kd.R_far (p := ⟨gb216, 0, none⟩) (Kd.R_types HO215.out BK216.out (by decide)) (fun _ hk => hk.2) (.slice Ao9 y213.length co9)) (fun _ hk => hk.2) (.int .i64 0)) (fun _ hk => hk.2) (.int .i64 0)) (fun _ hk => hk.2) (.int .i64 0)) (fun _ hk => hk.2) (.int .i64 0)) (fun _ hk => hk.2) (.int .i64 0)) (fun _ h_ => h_.1))) hb); replace BK211 := Aside0.mk (blk_below (g := gb211) (o := .cells #[.int .i64 a0_0, .int .i64 a0_1, .int .i64 a0_2] 60 (0, 0)) (by (with_reducible repeat (first | refine blk_drewN ?_ _ | refine blk_drew ?_ | refine blk_alloc ?_ _)); refine blk_far ?_ NB211_216.out _; refine blk_far ?_ NB211_216.out _; refine blk_far ?_ NB211_216.out _; refine blk_far ?_ NB211_216.out _; refine blk_far ?_ NB211_216.out _; refine blk_far ?_ NB211_216.out _; (with_reducible repeat (first | refine blk_drewN ?_ _ | refine blk_drew ?_ | refine blk_alloc ?_ _)); exact BK211.out) hb); replace BK212 := Aside0.mk (blk_below (g := gb212) (o := .cells #[.slice none 0 0, .int .i64 0, .int .i64 0, .int .i64 0, .int .i64 0, .int .i64 0] 115 (0, 0)) (by (with_reducible repeat (first | refine blk_drewN ?_ _ | refine blk_drew ?_ | refine blk_alloc ?_ _)); refine blk_far ?_ NB212_216.out _; refine blk_far ?_ NB212_216.out _; refine blk_far ?_ NB212_216.out _; refine blk_far ?_ NB212_216.out _; refine blk_far ?_ NB212_216.out _; refine blk_far ?_ NB212_216.out _; (with_reducible repeat (first | refine blk_drewN ?_ _ | refine blk_drew ?_ | refine blk_alloc ?_ _)); exact BK212.out) hb); replace BK216 := Aside0.mk (blk_below (g := gb216) (o := .cells #[.slice Ao9 y213.length co9, .int .i64 0, .int .i64 0, .int .i64 0, .int .i64 0, .int .i64 0] 115 (0, 0)) (by (with_reducible repeat (first | refine blk_drewN ?_ _ | refine blk_drew ?_ | refine blk_alloc ?_ _)); refine blk_put (cs := #[.slice Ao9 y213.length co9, .int .i64 0, .int .i64 0, .int .i64 0, .int .i64 0, .int .i64 0]) ?_ 5 _ rfl; refine blk_put (cs := #[.slice Ao9 y213.length co9, .int .i64 0, .int .i64 0, .int .i64 0, .int .i64 0, .int .i64 0]) ?_ 4 _ rfl; refine blk_put (cs := #[.slice Ao9 y213.length co9, .int .i64 0, .int .i64 0, .int .i64 0, .int .i64 0, .int .i64 0]) ?_ 3 _ rfl; refine blk_put (cs := #[.slice Ao9 y213.length co9, .int .i64 0, .int .i64 0, .int .i64 0, .int .i64 0, .int .i64 0]) ?_ 2 _ rfl; refine blk_put (cs := #[.slice Ao9 y213.length co9, .int .i64 0, .int .i64 0, .int .i64 0, .int .i64 0, .int .i64 0]) ?_ 1 _ rfl; refine blk_put (cs := #[.slice none 0 0, .int .i64 0, .int .i64 0, .int .i64 0, .int .i64 0, .int .i64 0]) ?_ 0 _ rfl; (with_reducible repeat (first | refine blk_drewN ?_ _ | refine blk_drew ?_ | refine blk_alloc ?_ _)); exact BK216.out) hb); replace HB := Aside0.mk (below_step (by repeat (first | exact zh0 HB | refine below_set ?_ GE211.out | refine below_set ?_ GE212.out | refine below_set ?_ GE216.out)) hb); (try clear hb); (try clear hb2); (try clear hk); (try clear hi)))
   go_meet
   case rel => exact ⟨_, (decide ((l2.length : Int) > 40)), zfs, H', ⟨by first | omega | exact Nat.le_refl _⟩, ⟨zr0 HO215⟩, ⟨zk0 BK211⟩, ⟨zk0 BK212⟩, ⟨zk0 BK216⟩, ⟨by repeat (first | exact zh0 HB | refine below_set ?_ GE211.out | refine below_set ?_ GE212.out | refine below_set ?_ GE216.out)⟩⟩
  ·replace c15 := Bool.eq_false_iff.mpr c15
   subst c15
   have H1 : (spec_l4All.j0 k a1 l2 true a0_0 a0_1 a0_2 y213 0 0 0 0 0) = some (r1, r2, r3, r4, r5, r6, r7) := by rw [if_neg (show ¬ (false = true) by decide)] at H; exact H
   clear H
   have H := H1
   clear H1
   have H' := Aside0.mk H
   clear H
   have hnb20 := NB211_212.out
   have hnc20 := NB212_211.out
   have hnb21 := NB211_216.out
   have hnc21 := NB216_211.out
   have hcz22_0 := zc0 BK211 0 rfl
   have hcz22_1 := zc0 BK211 1 rfl
   have hcz22_2 := zc0 BK211 2 rfl
   have hfz22_0 := blk_frozen BK211.out 0
   have hfz22_1 := blk_frozen BK211.out 1
   have hfz22_2 := blk_frozen BK211.out 2
   go_wp2_with (first | ((with_reducible refine gate_callee (f := 85) rfl ?_); refine goesL_ (some 15) rfl rfl Try.func85 (by kernel_rfl) rfl #[.agg #[.int .i64 a0_0, .int .i64 a0_1, .int .i64 a0_2]] rfl (by (try simp only [zq1, zq2, zq3]); first | done | rfl | (simp only [List.length_drop, List.length_take]; rfl)) ?_; (with_reducible refine (spec_l4Rule.calls a0_0 a0_1 a0_2 false _ A14.out).mono ?_); rintro e w23 ⟨rfl, hb⟩; refine ⟨_, rfl, ?_⟩; replace HO215 := Aside0.mk (Kd.R_below (by (with_reducible repeat (first | apply Kd.R_alloc | apply Kd.R_drewN | apply Kd.R_drew)); exact (Kd.R_mono (Kd.R_far (p := ⟨gb216, 5, none⟩) (Kd.R_far (p := ⟨gb216, 4, none⟩) (Kd.R_far (p := ⟨gb216, 3, none⟩) (Kd.R_far (p := ⟨gb216, 2, none⟩) (Kd.R_far (p := ⟨gb216, 1, none⟩) (Kd.R_far (p := ⟨gb216, 0, none⟩) (Kd.R_types HO215.out BK216.out (by decide)) (fun _ hk => hk.2) (.slice Ao9 y213.length co9)) (fun _ hk => hk.2) (.int .i64 0)) (fun _ hk => hk.2) (.int .i64 0)) (fun _ hk => hk.2) (.int .i64 0)) (fun _ hk => hk.2) (.int .i64 0)) (fun _ hk => hk.2) (.int .i64 0)) (fun _ h_ => h_.1))) hb); replace BK211 := Aside0.mk (blk_below (g := gb211) (o := .cells #[.int .i64 a0_0, .int .i64 a0_1, .int .i64 a0_2] 60 (0, 0)) (by (with_reducible repeat (first | refine blk_drewN ?_ _ | refine blk_drew ?_ | refine blk_alloc ?_ _)); refine blk_far ?_ NB211_216.out _; refine blk_far ?_ NB211_216.out _; refine blk_far ?_ NB211_216.out _; refine blk_far ?_ NB211_216.out _; refine blk_far ?_ NB211_216.out _; refine blk_far ?_ NB211_216.out _; (with_reducible repeat (first | refine blk_drewN ?_ _ | refine blk_drew ?_ | refine blk_alloc ?_ _)); exact BK211.out) hb); replace BK212 := Aside0.mk (blk_below (g := gb212) (o := .cells #[.slice none 0 0, .int .i64 0, .int .i64 0, .int .i64 0, .int .i64 0, .int .i64 0] 115 (0, 0)) (by (with_reducible repeat (first | refine blk_drewN ?_ _ | refine blk_drew ?_ | refine blk_alloc ?_ _)); refine blk_far ?_ NB212_216.out _; refine blk_far ?_ NB212_216.out _; refine blk_far ?_ NB212_216.out _; refine blk_far ?_ NB212_216.out _; refine blk_far ?_ NB212_216.out _; refine blk_far ?_ NB212_216.out _; (with_reducible repeat (first | refine blk_drewN ?_ _ | refine blk_drew ?_ | refine blk_alloc ?_ _)); exact BK212.out) hb); replace BK216 := Aside0.mk (blk_below (g := gb216) (o := .cells #[.slice Ao9 y213.length co9, .int .i64 0, .int .i64 0, .int .i64 0, .int .i64 0, .int .i64 0] 115 (0, 0)) (by (with_reducible repeat (first | refine blk_drewN ?_ _ | refine blk_drew ?_ | refine blk_alloc ?_ _)); refine blk_put (cs := #[.slice Ao9 y213.length co9, .int .i64 0, .int .i64 0, .int .i64 0, .int .i64 0, .int .i64 0]) ?_ 5 _ rfl; refine blk_put (cs := #[.slice Ao9 y213.length co9, .int .i64 0, .int .i64 0, .int .i64 0, .int .i64 0, .int .i64 0]) ?_ 4 _ rfl; refine blk_put (cs := #[.slice Ao9 y213.length co9, .int .i64 0, .int .i64 0, .int .i64 0, .int .i64 0, .int .i64 0]) ?_ 3 _ rfl; refine blk_put (cs := #[.slice Ao9 y213.length co9, .int .i64 0, .int .i64 0, .int .i64 0, .int .i64 0, .int .i64 0]) ?_ 2 _ rfl; refine blk_put (cs := #[.slice Ao9 y213.length co9, .int .i64 0, .int .i64 0, .int .i64 0, .int .i64 0, .int .i64 0]) ?_ 1 _ rfl; refine blk_put (cs := #[.slice none 0 0, .int .i64 0, .int .i64 0, .int .i64 0, .int .i64 0, .int .i64 0]) ?_ 0 _ rfl; (with_reducible repeat (first | refine blk_drewN ?_ _ | refine blk_drew ?_ | refine blk_alloc ?_ _)); exact BK216.out) hb); replace HB := Aside0.mk (below_step (by repeat (first | exact zh0 HB | refine below_set ?_ GE211.out | refine below_set ?_ GE212.out | refine below_set ?_ GE216.out)) hb); (try clear hb); (try clear hb2); (try clear hk); (try clear hi)))
   go_meet
   case rel => exact ⟨_, (true), zfs, H', ⟨by first | omega | exact Nat.le_refl _⟩, ⟨zr0 HO215⟩, ⟨zk0 BK211⟩, ⟨zk0 BK212⟩, ⟨zk0 BK216⟩, ⟨by repeat (first | exact zh0 HB | refine below_set ?_ GE211.out | refine below_set ?_ GE212.out | refine below_set ?_ GE216.out)⟩⟩
 case rest =>
  clear HC4
  try clear c1
  try clear c2
  try clear p2
  try clear c7
  try clear c8
  try clear c11
  try clear c12
  try clear c15
  try clear c16
  try clear c17
  try clear c20
  try clear c21
  try clear hcz13_0
  try clear hcz13_1
  try clear hcz13_2
  try clear hcz13_3
  try clear hcz13_4
  try clear hcz13_5
  try clear hcz18_0
  try clear hcz18_1
  try clear hcz18_2
  try clear hcz22_0
  try clear hcz22_1
  try clear hcz22_2
  try clear hfz13_0
  try clear hfz13_1
  try clear hfz13_2
  try clear hfz13_3
  try clear hfz13_4
  try clear hfz13_5
  try clear hfz18_0
  try clear hfz18_1
  try clear hfz18_2
  try clear hfz22_0
  try clear hfz22_1
  try clear hfz22_2
  obtain ⟨kq, x21_3, rfl, HA, HJ3, HO_217000, BK211, BK212, BK216, HB⟩ := hcut
  cases kq with
  | zero => exact absurd HA.out (by simp [spec_l4All.j0])
  | succ kj3 =>
   have H := HA.out
   clear HA
   simp only [spec_l4All.j0] at H
   by_cases c24 : x21_3 = true
   ·subst c24
    have H1 : (some (y213, 0, 0, 0, 0, 0, false)) = some (r1, r2, r3, r4, r5, r6, r7) := by rw [if_pos rfl] at H; exact H
    clear H
    have H := H1
    clear H1
    simp only [Option.some.injEq, Prod.mk.injEq] at H
    obtain ⟨rfl, rfl, rfl, rfl, rfl, rfl, rfl⟩ := H
    have hnb25 := NB216_211.out
    have hnc25 := NB211_216.out
    have hnb26 := NB216_212.out
    have hnc26 := NB212_216.out
    have hcz27_0 := zc0 BK216 0 rfl
    have hcz27_1 := zc0 BK216 1 rfl
    have hcz27_2 := zc0 BK216 2 rfl
    have hcz27_3 := zc0 BK216 3 rfl
    have hcz27_4 := zc0 BK216 4 rfl
    have hcz27_5 := zc0 BK216 5 rfl
    have hfz27_0 := blk_frozen BK216.out 0
    have hfz27_1 := blk_frozen BK216.out 1
    have hfz27_2 := blk_frozen BK216.out 2
    have hfz27_3 := blk_frozen BK216.out 3
    have hfz27_4 := blk_frozen BK216.out 4
    have hfz27_5 := blk_frozen BK216.out 5
    have hnb28 := NB212_211.out
    have hnc28 := NB211_212.out
    have hcz29_0 := zc0 BK212 0 rfl
    have hcz29_1 := zc0 BK212 1 rfl
    have hcz29_2 := zc0 BK212 2 rfl
    have hcz29_3 := zc0 BK212 3 rfl
    have hcz29_4 := zc0 BK212 4 rfl
    have hcz29_5 := zc0 BK212 5 rfl
    have hfz29_0 := blk_frozen BK212.out 0
    have hfz29_1 := blk_frozen BK212.out 1
    have hfz29_2 := blk_frozen BK212.out 2
    have hfz29_3 := blk_frozen BK212.out 3
    have hfz29_4 := blk_frozen BK212.out 4
    have hfz29_5 := blk_frozen BK212.out 5
    go_wp2
    refine bodyPost_ret (results_ct rfl _ _ gb212 115 #[.slice Ao9 y213.length co9, .int .i64 0, .int .i64 0, .int .i64 0, .int .i64 0, .int .i64 0] (0, 0) _ rfl (by (with_reducible repeat (first | refine blk_drewN ?_ _ | refine blk_drew ?_ | refine blk_alloc ?_ _)); refine blk_put (cs := #[.slice Ao9 y213.length co9, .int .i64 0, .int .i64 0, .int .i64 0, .int .i64 0, .int .i64 0]) ?_ 5 _ rfl; refine blk_put (cs := #[.slice Ao9 y213.length co9, .int .i64 0, .int .i64 0, .int .i64 0, .int .i64 0, .int .i64 0]) ?_ 4 _ rfl; refine blk_put (cs := #[.slice Ao9 y213.length co9, .int .i64 0, .int .i64 0, .int .i64 0, .int .i64 0, .int .i64 0]) ?_ 3 _ rfl; refine blk_put (cs := #[.slice Ao9 y213.length co9, .int .i64 0, .int .i64 0, .int .i64 0, .int .i64 0, .int .i64 0]) ?_ 2 _ rfl; refine blk_put (cs := #[.slice Ao9 y213.length co9, .int .i64 0, .int .i64 0, .int .i64 0, .int .i64 0, .int .i64 0]) ?_ 1 _ rfl; refine blk_put (cs := #[.slice none 0 0, .int .i64 0, .int .i64 0, .int .i64 0, .int .i64 0, .int .i64 0]) ?_ 0 _ rfl; (with_reducible repeat (first | refine blk_drewN ?_ _ | refine blk_drew ?_ | refine blk_alloc ?_ _)); exact BK212.out) Try.underlying115 rfl (by kernel_rfl)) rfl ?_
    exact ⟨_, by first | rfl | (simp <;> rfl) | (simp [*] <;> rfl), by (with_reducible repeat (first | apply Kd.R_alloc | apply Kd.R_drewN | apply Kd.R_drew)); exact Kd.R_mono (Kd.R_far (p := ⟨gb212, 5, none⟩) (Kd.R_far (p := ⟨gb212, 4, none⟩) (Kd.R_far (p := ⟨gb212, 3, none⟩) (Kd.R_far (p := ⟨gb212, 2, none⟩) (Kd.R_far (p := ⟨gb212, 1, none⟩) (Kd.R_far (p := ⟨gb212, 0, none⟩) (Kd.R_types HO_217000.out BK212.out (by decide)) (fun _ hk => hk.2) (.slice Ao9 y213.length co9)) (fun _ hk => hk.2) (.int .i64 0)) (fun _ hk => hk.2) (.int .i64 0)) (fun _ hk => hk.2) (.int .i64 0)) (fun _ hk => hk.2) (.int .i64 0)) (fun _ hk => hk.2) (.int .i64 0)) (fun _ hk => trivial), by repeat (first | exact zh0 HB | refine below_set ?_ GE211.out | refine below_set ?_ GE212.out | refine below_set ?_ GE216.out)⟩
   ·replace c24 := Bool.eq_false_iff.mpr c24
    subst c24
    have H1 : (spec_l4All.l0 kj3 a1 l2 0 a0_0 a0_1 a0_2 y213 0 0 0 0 0) = some (r1, r2, r3, r4, r5, r6, r7) := by rw [if_neg (show ¬ (false = true) by decide)] at H; exact H
    clear H
    have H := H1
    clear H1
    have H' := Aside0.mk H
    clear H
    go_wp2
    go_loopg [9] kj3 (fun kq v9 w' => ∃ (x9_2 : Int) (x213001_2 : Int) (x213002_2 : Int) (x213003_2 : Int) (x213004_2 : Int) (x213005_2 : Int) (x217000_2 : List Int) (x217001_2 : Int) (x217002_2 : Int) (x217003_2 : Int) (x217004_2 : Int) (x217005_2 : Int) (u217000 : Value), v9 = .int .i64 x9_2 ∧ Aside0 (spec_l4All.l0 kq a1 l2 x9_2 a0_0 a0_1 a0_2 x217000_2 x217001_2 x217002_2 x217003_2 x217004_2 x217005_2 = some (r1, r2, r3, r4, r5, r6, r7)) ∧ Aside0 (kq ≤ kj3) ∧ Aside0 (Kd.R (Kd.int .i64) 3 w' w.heap.size (fun _ => True) u217000 x217000_2) ∧ Aside0 (w'.heap[gb211]? = some (.cells #[.int .i64 a0_0, .int .i64 a0_1, .int .i64 a0_2] 60 (0, 0))) ∧ Aside0 (w'.heap[gb212]? = some (.cells #[(.slice none 0 0), .int .i64 x213001_2, .int .i64 x213002_2, .int .i64 x213003_2, .int .i64 x213004_2, .int .i64 x213005_2] 115 (0, 0))) ∧ Aside0 (w'.heap[gb216]? = some (.cells #[u217000, .int .i64 x217001_2, .int .i64 x217002_2, .int .i64 x217003_2, .int .i64 x217004_2, .int .i64 x217005_2] 115 (0, 0))) ∧ Aside0 (Below w.heap.size w w'))
    case atStart => exact ⟨(0), (0), (0), (0), (0), (0), (y213), (0), (0), (0), (0), (0), (.slice Ao9 y213.length co9), zfs, H', ⟨Nat.le_refl _⟩, ⟨zr0 HO_217000⟩, ⟨zk0 BK211⟩, ⟨zk0 BK212⟩, ⟨zk0 BK216⟩, ⟨by repeat (first | exact zh0 HB | refine below_set ?_ GE211.out | refine below_set ?_ GE212.out | refine below_set ?_ GE216.out)⟩⟩
    case round =>
     clear H'
     try clear c1
     try clear c2
     try clear p2
     try clear c7
     try clear c8
     try clear c11
     try clear c12
     try clear c15
     try clear c16
     try clear c17
     try clear c20
     try clear c21
     try clear c24
     try clear c25
     try clear c26
     try clear c28
     try clear hcz13_0
     try clear hcz13_1
     try clear hcz13_2
     try clear hcz13_3
     try clear hcz13_4
     try clear hcz13_5
     try clear hcz18_0
     try clear hcz18_1
     try clear hcz18_2
     try clear hcz22_0
     try clear hcz22_1
     try clear hcz22_2
     try clear hcz27_0
     try clear hcz27_1
     try clear hcz27_2
     try clear hcz27_3
     try clear hcz27_4
     try clear hcz27_5
     try clear hcz29_0
     try clear hcz29_1
     try clear hcz29_2
     try clear hcz29_3
     try clear hcz29_4
     try clear hcz29_5
     try clear hfz13_0
     try clear hfz13_1
     try clear hfz13_2
     try clear hfz13_3
     try clear hfz13_4
     try clear hfz13_5
     try clear hfz18_0
     try clear hfz18_1
     try clear hfz18_2
     try clear hfz22_0
     try clear hfz22_1
     try clear hfz22_2
     try clear hfz27_0
     try clear hfz27_1
     try clear hfz27_2
     try clear hfz27_3
     try clear hfz27_4
     try clear hfz27_5
     try clear hfz29_0
     try clear hfz29_1
     try clear hfz29_2
     try clear hfz29_3
     try clear hfz29_4
     try clear hfz29_5
     try clear p2
     obtain ⟨x9_2, x213001_2, x213002_2, x213003_2, x213004_2, x213005_2, x217000_2, x217001_2, x217002_2, x217003_2, x217004_2, x217005_2, u217000, rfl, HA, HK2, HO_217000, BK211, BK212, BK216, HB⟩ := hrel
     cases gk with
     | zero => exact absurd HA.out (by simp [spec_l4All.l0])
     | succ k2 =>
      have H := HA.out
      clear HA
      simp only [spec_l4All.l0] at H
      by_cases c30 : x9_2 < (l2.length : Int)
      ·rw [if_pos c30] at H
       have c30b0 : decide (x9_2 < (l2.length : Int)) = true := decide_eq_true c30
       clear c30
       by_cases c31 : 0 ≤ x9_2
       ·rw [if_pos c31] at H
        have c31b0 : decide (0 ≤ x9_2) = true := decide_eq_true c31
        clear c31
        replace H := Option.bind_eq_some_iff.mp H
        obtain ⟨⟨t219, t222, t223, t224, t225, t226, t227⟩, A320, H⟩ := H
        replace H : (if t227 = true then ((spec_l1Own.f t219).bind fun t229 => ((some (([t226] : List Int) : List Int)).bind fun y232 => (if t229.length + y232.length < 17592186044416 then (spec_l4All.l0 k2 a1 l2 (wrap64 (x9_2 + 1)) a0_0 a0_1 a0_2 (t229 ++ y232) t222 t223 t224 t225 t226) else (none)))) else (some ((([] : List Int)), 0, 0, 0, 0, 0, false))) = some (r1, r2, r3, r4, r5, r6, r7) := H
        have A32 := Aside0.mk A320
        clear A320
        by_cases c33 : t227 = true
        ·subst c33
         have H1 : ((spec_l1Own.f t219).bind fun t229 => ((some (([t226] : List Int) : List Int)).bind fun y232 => (if t229.length + y232.length < 17592186044416 then (spec_l4All.l0 k2 a1 l2 (wrap64 (x9_2 + 1)) a0_0 a0_1 a0_2 (t229 ++ y232) t222 t223 t224 t225 t226) else (none)))) = some (r1, r2, r3, r4, r5, r6, r7) := by rw [if_pos rfl] at H; exact H
         clear H
         have H := H1
         clear H1
         replace H := Option.bind_eq_some_iff.mp H
         obtain ⟨t229, A340, H⟩ := H
         replace H : ((some (([t226] : List Int) : List Int)).bind fun y232 => (if t229.length + y232.length < 17592186044416 then (spec_l4All.l0 k2 a1 l2 (wrap64 (x9_2 + 1)) a0_0 a0_1 a0_2 (t229 ++ y232) t222 t223 t224 t225 t226) else (none))) = some (r1, r2, r3, r4, r5, r6, r7) := H
         have A34 := Aside0.mk A340
         clear A340
         obtain ⟨y232, hy232⟩ : ∃ y_ : List Int, y_ = (([t226] : List Int)) := ⟨_, rfl⟩
         replace H : (if t229.length + y232.length < 17592186044416 then (spec_l4All.l0 k2 a1 l2 (wrap64 (x9_2 + 1)) a0_0 a0_1 a0_2 (t229 ++ y232) t222 t223 t224 t225 t226) else (none)) = some (r1, r2, r3, r4, r5, r6, r7) := by first | (rw [hy232]; with_reducible exact H) | (have H2_ := (Option.bind_some _ _).symm.trans H; rw [hy232]; with_reducible exact H2_) | (have H2_ := (Option.bind_some _ _).symm.trans H; with_reducible exact H2_) | with_reducible exact H | (rw [hy232]; exact H) | exact H
         have Ny232 := Aside0.mk hy232
         clear hy232
         by_cases c35 : t229.length + y232.length < 17592186044416
         ·rw [if_pos c35] at H
          have LMc35 := Aside0.mk c35
          clear c35
          obtain ⟨y235, hy235⟩ : ∃ y_ : List Int, y_ = (t229 ++ y232) := ⟨_, rfl⟩
          replace H : (spec_l4All.l0 k2 a1 l2 (wrap64 (x9_2 + 1)) a0_0 a0_1 a0_2 y235 t222 t223 t224 t225 t226) = some (r1, r2, r3, r4, r5, r6, r7) := by first | (rw [hy235]; with_reducible exact H) | (have H2_ := (Option.bind_some _ _).symm.trans H; rw [hy235]; with_reducible exact H2_) | (have H2_ := (Option.bind_some _ _).symm.trans H; with_reducible exact H2_) | with_reducible exact H | (rw [hy235]; exact H) | exact H
          have Ny235 := Aside0.mk hy235
          clear hy235
          have H' := Aside0.mk H
          clear H
          obtain ⟨Ao36, co36, eo36⟩ := Kd.R_slice HO_217000.out
          subst eo36
          try go_wp2
          replace HO_217000 := Aside0.mk (Kd.R_drew HO_217000.out)
          replace BK211 := Aside0.mk (blk_drew BK211.out)
          replace BK212 := Aside0.mk (blk_drew BK212.out)
          replace BK216 := Aside0.mk (blk_drew BK216.out)
          replace HB := Aside0.mk (below_drew1 HB.out)
          have p218 : 0 ≤ (x9_2 : Int) := zod
          have q218 : x9_2 < (l2.length : Int) := zod
          obtain ⟨ad218, e218, hx218_0⟩ := Kd.at_int HR2.out x9_2 p218 q218
          have hw218_0 := hx218_0
          cases e218
          replace hx218_0 := (HB.out.cell (World.block_lt_of_cell? w _ hx218_0)).trans hx218_0
          replace p218 := eq_true p218
          replace q218 := eq_true q218
          refine start_ (n := 14) (S := fun w' => w'.cell? ⟨gb211, 0, none⟩ = some (.int .i64 a0_0) ∧ w'.cell? ⟨gb211, 1, none⟩ = some (.int .i64 a0_1) ∧ w'.cell? ⟨gb211, 2, none⟩ = some (.int .i64 a0_2) ∧ w'.cell? ⟨gb216, 0, none⟩ = some (.slice Ao36 x217000_2.length co36) ∧ w'.cell? ⟨gb216, 1, none⟩ = some (.int .i64 x217001_2) ∧ w'.cell? ⟨gb216, 2, none⟩ = some (.int .i64 x217002_2) ∧ w'.cell? ⟨gb216, 3, none⟩ = some (.int .i64 x217003_2) ∧ w'.cell? ⟨gb216, 4, none⟩ = some (.int .i64 x217004_2) ∧ w'.cell? ⟨gb216, 5, none⟩ = some (.int .i64 x217005_2) ∧ w'.cell? (ad218.add (x9_2).toNat) = some (.int .i64 (rd l2 x9_2))) (ds := []) #[zF, zF, zF, zF, zF, zF, zF, zF, zF, zF, zF, zF, zF, zF] (by kernel_rfl) rfl rfl ⟨zc0 BK211 0 rfl, zc0 BK211 1 rfl, zc0 BK211 2 rfl, zc0 BK216 0 rfl, zc0 BK216 1 rfl, zc0 BK216 2 rfl, zc0 BK216 3 rfl, zc0 BK216 4 rfl, zc0 BK216 5 rfl, ((HB.out.cell (World.block_lt_of_cell? w _ hw218_0)).trans hw218_0)⟩ (fun hHeld => ?_); refine with_tabW spec_l4All.tab7 spec_l4All.bits7 (fun HT_ HW_ => ?_)
          generalize wr.drew = w37 at HO_217000 BK211 BK212 BK216 HB hx218_0 hHeld ⊢
          refine pure_ (i := 1) (N := some 31) (v := ?_) (a' := ?_) #[zF, zT, zF, zF, zF, zF, zF, zF, zF, zF, zF, zF, zF, zF] rfl rfl (any_of HT_.out (by kernel_rfl)) (fun _ _ _ h => h) (Or.inl ⟨by rfl, ?_⟩) ?_ ?_
          rotate_left
          ·intro w'
           go_simp
           with_reducible rfl
          rotate_left
          ·simp only [Act.put, zp1, zp2, zp3, i64_w, i32_w]
           rfl
          refine pure_ (i := 3) (N := some 33) (v := ?_) (a' := ?_) #[zF, zT, zF, zT, zF, zF, zF, zF, zF, zF, zF, zF, zF, zF] rfl rfl (any_of HT_.out (by kernel_rfl)) (fun _ _ _ h => h) (Or.inl ⟨by rfl, ?_⟩) ?_ ?_
          rotate_left
          ·intro w'
           go_simp
           with_reducible rfl
          rotate_left
          ·simp only [Act.put, zp1, zp2, zp3, i64_w, i32_w]
           rfl
          refine pure_ (i := 4) (N := some 34) (v := ?_) (a' := ?_) #[zF, zT, zF, zT, zT, zF, zF, zF, zF, zF, zF, zF, zF, zF] rfl rfl (any_of HT_.out (by kernel_rfl)) (fun _ _ _ h => h) (Or.inl ⟨by rfl, ?_⟩) ?_ ?_
          rotate_left
          ·intro w'
           go_simp
           with_reducible rfl
          rotate_left
          ·simp only [Act.put, zp1, zp2, zp3, i64_w, i32_w]
           rfl
          refine pure_ (i := 5) (N := some 35) (v := ?_) (a' := ?_) #[zF, zT, zF, zT, zT, zT, zF, zF, zF, zF, zF, zF, zF, zF] rfl rfl (any_of HT_.out (by kernel_rfl)) (fun _ _ _ h => h) (Or.inl ⟨by rfl, ?_⟩) ?_ ?_
          rotate_left
          ·intro w'
           go_simp
           with_reducible rfl
          rotate_left
          ·simp only [Act.put, zp1, zp2, zp3, i64_w, i32_w]
           rfl
          refine take_ (i := 0) (N := some 30) (v := ?_) (a' := ?_) #[zT, zT, zF, zT, zT, zT, zF, zF, zF, zF, zF, zF, zF, zF] rfl rfl (take_ofW HT_.out HW_.out (by kernel_rfl)) (fun _ _ _ h => h) (Or.inl ⟨by rfl, ?_⟩) hHeld ?_ ?_
          rotate_left
          ·rintro w' ⟨s0, s1, s2, s3, s4, s5, s6, s7, s8, s9⟩
           go_simp
           with_reducible rfl
          rotate_left
          ·simp only [Act.put, zp1, zp2, zp3, i64_w, i32_w]
           rfl
          refine take_ (i := 2) (N := some 32) (v := ?_) (a' := ?_) #[zT, zT, zT, zT, zT, zT, zF, zF, zF, zF, zF, zF, zF, zF] rfl rfl (take_ofW HT_.out HW_.out (by kernel_rfl)) (fun _ _ _ h => h) (Or.inl ⟨by rfl, ?_⟩) hHeld ?_ ?_
          rotate_left
          ·rintro w' ⟨s0, s1, s2, s3, s4, s5, s6, s7, s8, s9⟩
           go_simp
           with_reducible rfl
          rotate_left
          ·simp only [Act.put, zp1, zp2, zp3, i64_w, i32_w]
           rfl
          refine take_ (i := 6) (N := some 36) (v := ?_) (a' := ?_) #[zT, zT, zT, zT, zT, zT, zT, zF, zF, zF, zF, zF, zF, zF] rfl rfl (take_ofW HT_.out HW_.out (by kernel_rfl)) (fun _ _ _ h => h) (Or.inl ⟨by rfl, ?_⟩) hHeld ?_ ?_
          rotate_left
          ·rintro w' ⟨s0, s1, s2, s3, s4, s5, s6, s7, s8, s9⟩
           go_simp
           with_reducible rfl
          rotate_left
          ·simp only [Act.put, zp1, zp2, zp3, i64_w, i32_w]
           rfl
          refine join_ (σ := Value × Nat) 2 #[zT, zT, zT, zT, zT, zT, zT, zT, zT, zT, zT, zT, zF, zF] (fun s_ => [(37, .tuple #[.agg #[s_.1, .int .i64 t222, .int .i64 t223, .int .i64 t224, .int .i64 t225, .int .i64 t226], .bool true]), (10, .pointer (some ⟨s_.2, 0, none⟩)), (29, .tuple #[.agg #[s_.1, .int .i64 t222, .int .i64 t223, .int .i64 t224, .int .i64 t225, .int .i64 t226], .bool true]), (38, .agg #[s_.1, .int .i64 t222, .int .i64 t223, .int .i64 t224, .int .i64 t225, .int .i64 t226]), (39, .bool true)]) (fun s_ w' => (w'.cell? ⟨gb211, 0, none⟩ = some (.int .i64 a0_0) ∧ w'.cell? ⟨gb211, 1, none⟩ = some (.int .i64 a0_1) ∧ w'.cell? ⟨gb211, 2, none⟩ = some (.int .i64 a0_2) ∧ w'.cell? ⟨gb216, 0, none⟩ = some (.slice Ao36 x217000_2.length co36) ∧ w'.cell? ⟨gb216, 1, none⟩ = some (.int .i64 x217001_2) ∧ w'.cell? ⟨gb216, 2, none⟩ = some (.int .i64 x217002_2) ∧ w'.cell? ⟨gb216, 3, none⟩ = some (.int .i64 x217003_2) ∧ w'.cell? ⟨gb216, 4, none⟩ = some (.int .i64 x217004_2) ∧ w'.cell? ⟨gb216, 5, none⟩ = some (.int .i64 x217005_2) ∧ w'.cell? (ad218.add (x9_2).toNat) = some (.int .i64 (rd l2 x9_2))) ∧ (Kd.R (Kd.int .i64) 3 w' w.heap.size (fun _ => True) s_.1 t219) ∧ (w'.heap[gb211]? = some (.cells #[.int .i64 a0_0, .int .i64 a0_1, .int .i64 a0_2] 60 (0, 0))) ∧ (w'.heap[gb212]? = some (.cells #[.slice none 0 0, .int .i64 x213001_2, .int .i64 x213002_2, .int .i64 x213003_2, .int .i64 x213004_2, .int .i64 x213005_2] 115 (0, 0))) ∧ (w'.heap[gb216]? = some (.cells #[.slice Ao36 x217000_2.length co36, .int .i64 x217001_2, .int .i64 x217002_2, .int .i64 x217003_2, .int .i64 x217004_2, .int .i64 x217005_2] 115 (0, 0))) ∧ (w'.heap[s_.2]? = some (.cells #[.slice none 0 0, .int .i64 0, .int .i64 0, .int .i64 0, .int .i64 0, .int .i64 0] 115 (0, 0))) ∧ (w.heap.size ≤ s_.2) ∧ (w.heap.size ≤ s_.2) ∧ (gb211 ≠ s_.2) ∧ (s_.2 ≠ gb211) ∧ (gb212 ≠ s_.2) ∧ (s_.2 ≠ gb212) ∧ (gb216 ≠ s_.2) ∧ (s_.2 ≠ gb216) ∧ (Below w.heap.size w w')) ?_ ?_
          rotate_left
          ·intro hCont
           refine two_ (i := 7) (j := 11) (Ni := some 37) (Nj := some 10) #[zT, zT, zT, zT, zT, zT, zT, zT, zF, zF, zF, zF, zF, zF] #[zT, zT, zT, zT, zT, zT, zT, zF, zF, zF, zF, zT, zF, zF] rfl rfl rfl rfl (two_of HT_.out (by kernel_rfl)) (by decide) (by decide) (fun K hK => ?_) (fun K hK => ?_)
           ·skip
            refine goes_ Try.func119 (by kernel_rfl) rfl #[.agg #[.int .i64 a0_0, .int .i64 a0_1, .int .i64 a0_2], .int .i64 a1, .agg #[.slice Ao36 x217000_2.length co36, .int .i64 x217001_2, .int .i64 x217002_2, .int .i64 x217003_2, .int .i64 x217004_2, .int .i64 x217005_2], .int .i64 (rd l2 x9_2)] (by rfl) rfl rfl (by (try simp only [zq1, zq2, zq3]); first | done | rfl | (simp only [List.length_drop, List.length_take]; rfl)) ?_
            with_reducible refine (spec_l4Do.calls k2 a0_0 a0_1 a0_2 a1 (fun k_ => some k_ = (.slice Ao36 x217000_2.length co36 : Value).ownBlock) (.slice Ao36 x217000_2.length co36) x217000_2 x217001_2 x217002_2 x217003_2 x217004_2 x217005_2 (rd l2 x9_2) t219 t222 t223 t224 t225 t226 true w _ ?side1 ?side2 A32.out).mono ?_
            (case side1 => repeat (first | (with_reducible first | exact HB.out | apply below_alloc | apply pw_below_drewN | apply below_drew1 | refine below_set ?_ GE211.out | refine below_set ?_ GE212.out | refine below_set ?_ GE216.out) | exact HB.out))
            (case side2 => exact Kd.R_tight rfl HO_217000.out)
            rintro e w38 ⟨v220, rfl, ho0, hb, hkp⟩
            refine ⟨_, rfl, ?_⟩
            have n0_ := Aside0.mk (blk_kept (zk0 BK211) hkp (fun hs_ => (fun e_ => (Kd.R_ne HO_217000.out BK211.out (by decide)) e_) hs_))
            have n1_ := Aside0.mk (blk_kept (zk0 BK212) hkp (fun hs_ => (fun e_ => (Kd.R_ne HO_217000.out BK212.out (by decide)) e_) hs_))
            have n2_ := Aside0.mk (blk_kept (zk0 BK216) hkp (fun hs_ => (fun e_ => (Kd.R_ne HO_217000.out BK216.out (by decide)) e_) hs_))
            have n3_ := Aside0.mk (Kd.R_mono (ok' := fun k_ => True) ho0 (fun k_ hk_ => trivial))
            have n4_ := Aside0.mk (hb)
            clear BK211
            clear BK212
            clear BK216
            clear HB
            clear HO_217000
            have BK211 := n0_
            have BK212 := n1_
            have BK216 := n2_
            have HO221 := n3_
            have HB := n4_
            clear n0_ n1_ n2_ n3_ n4_
            (try clear hb)
            (try clear hkp)
            (try clear ho0)
            refine hK.out _ _ ⟨zc0 BK211 0 rfl, zc0 BK211 1 rfl, zc0 BK211 2 rfl, zc0 BK216 0 rfl, zc0 BK216 1 rfl, zc0 BK216 2 rfl, zc0 BK216 3 rfl, zc0 BK216 4 rfl, zc0 BK216 5 rfl, ((HB.out.cell (World.block_lt_of_cell? w _ hw218_0)).trans hw218_0)⟩ (fun hHeld => ?_)
            clear hK K
            refine norm_ (a' := ?_) ?_ ?_
            rotate_left
            ·show Act.put _ (some 37) _ = _
             simp only [Act.put, zp1, zp2, zp3, i64_w, i32_w]
             rfl
            refine pure_ (i := 8) (N := some 29) (v := ?_) (a' := ?_) #[zT, zT, zT, zT, zT, zT, zT, zT, zT, zF, zF, zF, zF, zF] rfl rfl (any_of HT_.out (by kernel_rfl)) (fun _ _ _ h => h) (Or.inl ⟨by rfl, ?_⟩) ?_ ?_
            rotate_left
            ·intro w'
             go_simp
             with_reducible rfl
            rotate_left
            ·simp only [Act.put, zp1, zp2, zp3, i64_w, i32_w]
             rfl
            refine pure_ (i := 9) (N := some 38) (v := ?_) (a' := ?_) #[zT, zT, zT, zT, zT, zT, zT, zT, zT, zT, zF, zF, zF, zF] rfl rfl (any_of HT_.out (by kernel_rfl)) (fun _ _ _ h => h) (Or.inl ⟨by rfl, ?_⟩) ?_ ?_
            rotate_left
            ·intro w'
             go_simp
             with_reducible rfl
            rotate_left
            ·simp only [Act.put, zp1, zp2, zp3, i64_w, i32_w]
             rfl
            refine pure_ (i := 10) (N := some 39) (v := ?_) (a' := ?_) #[zT, zT, zT, zT, zT, zT, zT, zT, zT, zT, zT, zF, zF, zF] rfl rfl (any_of HT_.out (by kernel_rfl)) (fun _ _ _ h => h) (Or.inl ⟨by rfl, ?_⟩) ?_ ?_
            rotate_left
            ·intro w'
             go_simp
             with_reducible rfl
            rotate_left
            ·simp only [Act.put, zp1, zp2, zp3, i64_w, i32_w]
             rfl
            refine one_ (i := 11) (N := some 10) #[zT, zT, zT, zT, zT, zT, zT, zT, zT, zT, zT, zT, zF, zF] rfl rfl (one_of HT_.out (by kernel_rfl)) (by decide) (fun K hK => ?_)
            refine box_step ?hg (N := 10) ?hd (cs := #[.slice none 0 0, .int .i64 0, .int .i64 0, .int .i64 0, .int .i64 0, .int .i64 0]) (t := 115) ?hr ?_; (case hd => rfl); (case hg => rfl); (case hr => first | (go_simp; done) | (go_simp; rfl))
            intro gb228 hg w39 hbox hb
            have BK228 := Aside0.mk (hbox)
            have GW228 := zge HB hg
            have GE228 := zge HB hg
            have NB211_228 := znl BK211 hg
            have NB228_211 := znr BK211 hg
            have NB212_228 := znl BK212 hg
            have NB228_212 := znr BK212 hg
            have NB216_228 := znl BK216 hg
            have NB228_216 := znr BK216 hg
            replace HO221 := zrb HO221 hb
            replace BK211 := zb0 BK211 hb
            replace BK212 := zb0 BK212 hb
            replace BK216 := zb0 BK216 hb
            replace HB := zhs HB hb
            clear hb hbox hg
            refine hK.out _ _ ⟨zc0 BK211 0 rfl, zc0 BK211 1 rfl, zc0 BK211 2 rfl, zc0 BK216 0 rfl, zc0 BK216 1 rfl, zc0 BK216 2 rfl, zc0 BK216 3 rfl, zc0 BK216 4 rfl, zc0 BK216 5 rfl, ((HB.out.cell (World.block_lt_of_cell? w _ hw218_0)).trans hw218_0)⟩ (fun hHeld => ?_)
            clear hK K
            refine norm_ (a' := ?_) ?_ ?_
            rotate_left
            ·show Act.put _ (some 10) _ = _
             simp only [Act.put, zp1, zp2, zp3, i64_w, i32_w]
             rfl
            exact norm_ (by simp only [putAll, Act.put, zp1, zp2, zp3]) (hCont (v220, gb228) _ ⟨hHeld, (zr0 HO221), (zk0 BK211), (zk0 BK212), (zk0 BK216), (zk0 BK228), GW228.out, GE228.out, NB211_228.out, NB228_211.out, NB212_228.out, NB228_212.out, NB216_228.out, NB228_216.out, (zh0 HB)⟩)
           ·skip
            refine box_step ?hg (N := 10) ?hd (cs := #[.slice none 0 0, .int .i64 0, .int .i64 0, .int .i64 0, .int .i64 0, .int .i64 0]) (t := 115) ?hr ?_; (case hd => rfl); (case hg => rfl); (case hr => first | (go_simp; done) | (go_simp; rfl))
            intro gb228 hg w38 hbox hb
            have BK228 := Aside0.mk (hbox)
            have GW228 := zge HB hg
            have GE228 := zge HB hg
            have NB211_228 := znl BK211 hg
            have NB228_211 := znr BK211 hg
            have NB212_228 := znl BK212 hg
            have NB228_212 := znr BK212 hg
            have NB216_228 := znl BK216 hg
            have NB228_216 := znr BK216 hg
            replace HO_217000 := zrb HO_217000 hb
            replace BK211 := zb0 BK211 hb
            replace BK212 := zb0 BK212 hb
            replace BK216 := zb0 BK216 hb
            replace HB := zhs HB hb
            clear hb hbox hg
            refine hK.out _ _ ⟨zc0 BK211 0 rfl, zc0 BK211 1 rfl, zc0 BK211 2 rfl, zc0 BK216 0 rfl, zc0 BK216 1 rfl, zc0 BK216 2 rfl, zc0 BK216 3 rfl, zc0 BK216 4 rfl, zc0 BK216 5 rfl, ((HB.out.cell (World.block_lt_of_cell? w _ hw218_0)).trans hw218_0)⟩ (fun hHeld => ?_)
            clear hK K
            refine norm_ (a' := ?_) ?_ ?_
            rotate_left
            ·show Act.put _ (some 10) _ = _
             simp only [Act.put, zp1, zp2, zp3, i64_w, i32_w]
             rfl
            refine one_ (i := 7) (N := some 37) #[zT, zT, zT, zT, zT, zT, zT, zT, zF, zF, zF, zT, zF, zF] rfl rfl (one_of HT_.out (by kernel_rfl)) (by decide) (fun K hK => ?_)
            refine goes_ Try.func119 (by kernel_rfl) rfl #[.agg #[.int .i64 a0_0, .int .i64 a0_1, .int .i64 a0_2], .int .i64 a1, .agg #[.slice Ao36 x217000_2.length co36, .int .i64 x217001_2, .int .i64 x217002_2, .int .i64 x217003_2, .int .i64 x217004_2, .int .i64 x217005_2], .int .i64 (rd l2 x9_2)] (by rfl) rfl rfl (by (try simp only [zq1, zq2, zq3]); first | done | rfl | (simp only [List.length_drop, List.length_take]; rfl)) ?_
            with_reducible refine (spec_l4Do.calls k2 a0_0 a0_1 a0_2 a1 (fun k_ => some k_ = (.slice Ao36 x217000_2.length co36 : Value).ownBlock) (.slice Ao36 x217000_2.length co36) x217000_2 x217001_2 x217002_2 x217003_2 x217004_2 x217005_2 (rd l2 x9_2) t219 t222 t223 t224 t225 t226 true w _ ?side1 ?side2 A32.out).mono ?_
            (case side1 => repeat (first | (with_reducible first | exact HB.out | apply below_alloc | apply pw_below_drewN | apply below_drew1 | refine below_set ?_ GE211.out | refine below_set ?_ GE212.out | refine below_set ?_ GE216.out | refine below_set ?_ GE228.out) | exact HB.out))
            (case side2 => exact Kd.R_tight rfl HO_217000.out)
            rintro e w39 ⟨v220, rfl, ho0, hb, hkp⟩
            refine ⟨_, rfl, ?_⟩
            have n0_ := Aside0.mk (blk_kept (zk0 BK211) hkp (fun hs_ => (fun e_ => (Kd.R_ne HO_217000.out BK211.out (by decide)) e_) hs_))
            have n1_ := Aside0.mk (blk_kept (zk0 BK212) hkp (fun hs_ => (fun e_ => (Kd.R_ne HO_217000.out BK212.out (by decide)) e_) hs_))
            have n2_ := Aside0.mk (blk_kept (zk0 BK216) hkp (fun hs_ => (fun e_ => (Kd.R_ne HO_217000.out BK216.out (by decide)) e_) hs_))
            have n3_ := Aside0.mk (blk_kept (zk0 BK228) hkp (fun hs_ => (fun e_ => (Kd.R_ne HO_217000.out BK228.out (by decide)) e_) hs_))
            have n4_ := Aside0.mk (Kd.R_mono (ok' := fun k_ => True) ho0 (fun k_ hk_ => trivial))
            have n5_ := Aside0.mk (hb)
            clear BK211
            clear BK212
            clear BK216
            clear BK228
            clear HB
            clear HO_217000
            have BK211 := n0_
            have BK212 := n1_
            have BK216 := n2_
            have BK228 := n3_
            have HO221 := n4_
            have HB := n5_
            clear n0_ n1_ n2_ n3_ n4_ n5_
            (try clear hb)
            (try clear hkp)
            (try clear ho0)
            refine hK.out _ _ ⟨zc0 BK211 0 rfl, zc0 BK211 1 rfl, zc0 BK211 2 rfl, zc0 BK216 0 rfl, zc0 BK216 1 rfl, zc0 BK216 2 rfl, zc0 BK216 3 rfl, zc0 BK216 4 rfl, zc0 BK216 5 rfl, ((HB.out.cell (World.block_lt_of_cell? w _ hw218_0)).trans hw218_0)⟩ (fun hHeld => ?_)
            clear hK K
            refine norm_ (a' := ?_) ?_ ?_
            rotate_left
            ·show Act.put _ (some 37) _ = _
             simp only [Act.put, zp1, zp2, zp3, i64_w, i32_w]
             rfl
            refine pure_ (i := 8) (N := some 29) (v := ?_) (a' := ?_) #[zT, zT, zT, zT, zT, zT, zT, zT, zT, zF, zF, zT, zF, zF] rfl rfl (any_of HT_.out (by kernel_rfl)) (fun _ _ _ h => h) (Or.inl ⟨by rfl, ?_⟩) ?_ ?_
            rotate_left
            ·intro w'
             go_simp
             with_reducible rfl
            rotate_left
            ·simp only [Act.put, zp1, zp2, zp3, i64_w, i32_w]
             rfl
            refine pure_ (i := 9) (N := some 38) (v := ?_) (a' := ?_) #[zT, zT, zT, zT, zT, zT, zT, zT, zT, zT, zF, zT, zF, zF] rfl rfl (any_of HT_.out (by kernel_rfl)) (fun _ _ _ h => h) (Or.inl ⟨by rfl, ?_⟩) ?_ ?_
            rotate_left
            ·intro w'
             go_simp
             with_reducible rfl
            rotate_left
            ·simp only [Act.put, zp1, zp2, zp3, i64_w, i32_w]
             rfl
            refine pure_ (i := 10) (N := some 39) (v := ?_) (a' := ?_) #[zT, zT, zT, zT, zT, zT, zT, zT, zT, zT, zT, zT, zF, zF] rfl rfl (any_of HT_.out (by kernel_rfl)) (fun _ _ _ h => h) (Or.inl ⟨by rfl, ?_⟩) ?_ ?_
            rotate_left
            ·intro w'
             go_simp
             with_reducible rfl
            rotate_left
            ·simp only [Act.put, zp1, zp2, zp3, i64_w, i32_w]
             rfl
            exact norm_ (by simp only [putAll, Act.put, zp1, zp2, zp3]) (hCont (v220, gb228) _ ⟨hHeld, (zr0 HO221), (zk0 BK211), (zk0 BK212), (zk0 BK216), (zk0 BK228), GW228.out, GE228.out, NB211_228.out, NB228_211.out, NB212_228.out, NB228_212.out, NB216_228.out, NB228_216.out, (zh0 HB)⟩)
          rintro ⟨v220, gb228⟩ w40 ⟨hS_, h0_, h1_, h2_, h3_, h4_, h5_, h6_, h7_, h8_, h9_, h10_, h11_, h12_, h13_⟩
          try dsimp only at hS_ h0_ h1_ h2_ h3_ h4_ h5_ h6_ h7_ h8_ h9_ h10_ h11_ h12_ h13_
          have n0_ := Aside0.mk h0_
          have n1_ := Aside0.mk h1_
          have n2_ := Aside0.mk h2_
          have n3_ := Aside0.mk h3_
          have n4_ := Aside0.mk h4_
          have n5_ := Aside0.mk h5_
          have n6_ := Aside0.mk h6_
          have n7_ := Aside0.mk h7_
          have n8_ := Aside0.mk h8_
          have n9_ := Aside0.mk h9_
          have n10_ := Aside0.mk h10_
          have n11_ := Aside0.mk h11_
          have n12_ := Aside0.mk h12_
          have n13_ := Aside0.mk h13_
          clear HO_217000
          clear BK211
          clear BK212
          clear BK216
          clear HB
          clear h0_ h1_ h2_ h3_ h4_ h5_ h6_ h7_ h8_ h9_ h10_ h11_ h12_ h13_
          have HO221 := n0_
          have BK211 := n1_
          have BK212 := n2_
          have BK216 := n3_
          have BK228 := n4_
          have GW228 := n5_
          have GE228 := n6_
          have NB211_228 := n7_
          have NB228_211 := n8_
          have NB212_228 := n9_
          have NB228_212 := n10_
          have NB216_228 := n11_
          have NB228_216 := n12_
          have HB := n13_
          clear n0_ n1_ n2_ n3_ n4_ n5_ n6_ n7_ n8_ n9_ n10_ n11_ n12_ n13_
          have hHeld := hS_
          obtain ⟨Ao41, co41, eo41⟩ := Kd.R_slice HO221.out
          (first | subst eo41 | (injection eo41 with f1_ f2_ f3_; have f4_ := f1_.symm; have f5_ := f3_.symm; clear f1_ f2_ f3_; subst f4_; subst f5_))
          refine norm_ (a' := ?_) ?_ ?_
          rotate_left
          ·simp only [putAll, Act.put, zp1, zp2, zp3]
           rfl
          refine one_ (i := 12) (N := none) #[zT, zT, zT, zT, zT, zT, zT, zT, zT, zT, zT, zT, zT, zF] rfl rfl (one_of HT_.out (by kernel_rfl)) (by decide) (fun K hK => ?_)
          have hs42 : w40.cell? ⟨gb228, 0, none⟩ = some (.slice none 0 0) := zc0 BK228 0 rfl
          have hfs42 := blk_frozen BK228.out 0
          have hns42_0 := NB211_228.out
          have hns42_1 := NB212_228.out
          have hns42_2 := NB216_228.out
          have hms42_0 := NB228_211.out
          have hms42_1 := NB228_212.out
          have hms42_2 := NB228_216.out
          have hs43 : w40.cell? ⟨gb228, 1, none⟩ = some (.int .i64 0) := zc0 BK228 1 rfl
          have hfs43 := blk_frozen BK228.out 1
          have hns43_0 := NB211_228.out
          have hns43_1 := NB212_228.out
          have hns43_2 := NB216_228.out
          have hms43_0 := NB228_211.out
          have hms43_1 := NB228_212.out
          have hms43_2 := NB228_216.out
          have hs44 : w40.cell? ⟨gb228, 2, none⟩ = some (.int .i64 0) := zc0 BK228 2 rfl
          have hfs44 := blk_frozen BK228.out 2
          have hns44_0 := NB211_228.out
          have hns44_1 := NB212_228.out
          have hns44_2 := NB216_228.out
          have hms44_0 := NB228_211.out
          have hms44_1 := NB228_212.out
          have hms44_2 := NB228_216.out
          have hs45 : w40.cell? ⟨gb228, 3, none⟩ = some (.int .i64 0) := zc0 BK228 3 rfl
          have hfs45 := blk_frozen BK228.out 3
          have hns45_0 := NB211_228.out
          have hns45_1 := NB212_228.out
          have hns45_2 := NB216_228.out
          have hms45_0 := NB228_211.out
          have hms45_1 := NB228_212.out
          have hms45_2 := NB228_216.out
          have hs46 : w40.cell? ⟨gb228, 4, none⟩ = some (.int .i64 0) := zc0 BK228 4 rfl
          have hfs46 := blk_frozen BK228.out 4
          have hns46_0 := NB211_228.out
          have hns46_1 := NB212_228.out
          have hns46_2 := NB216_228.out
          have hms46_0 := NB228_211.out
          have hms46_1 := NB228_212.out
          have hms46_2 := NB228_216.out
          have hs47 : w40.cell? ⟨gb228, 5, none⟩ = some (.int .i64 0) := zc0 BK228 5 rfl
          have hfs47 := blk_frozen BK228.out 5
          have hns47_0 := NB211_228.out
          have hns47_1 := NB212_228.out
          have hns47_2 := NB216_228.out
          have hms47_0 := NB228_211.out
          have hms47_1 := NB228_212.out
          have hms47_2 := NB228_216.out
          refine skip_ (w1 := ?_) (by rfl) rfl ?_ ?_
          rotate_left
          ·go_simp
           rfl
          refine hK.out _ _ ⟨((zfar NB211_228).trans (((zfar NB211_228).trans (((zfar NB211_228).trans (((zfar NB211_228).trans (((zfar NB211_228).trans (((zfar NB211_228).trans (hHeld.1)))))))))))), ((zfar NB211_228).trans (((zfar NB211_228).trans (((zfar NB211_228).trans (((zfar NB211_228).trans (((zfar NB211_228).trans (((zfar NB211_228).trans (hHeld.2.1)))))))))))), ((zfar NB211_228).trans (((zfar NB211_228).trans (((zfar NB211_228).trans (((zfar NB211_228).trans (((zfar NB211_228).trans (((zfar NB211_228).trans (hHeld.2.2.1)))))))))))), ((zfar NB216_228).trans (((zfar NB216_228).trans (((zfar NB216_228).trans (((zfar NB216_228).trans (((zfar NB216_228).trans (((zfar NB216_228).trans (hHeld.2.2.2.1)))))))))))), ((zfar NB216_228).trans (((zfar NB216_228).trans (((zfar NB216_228).trans (((zfar NB216_228).trans (((zfar NB216_228).trans (((zfar NB216_228).trans (hHeld.2.2.2.2.1)))))))))))), ((zfar NB216_228).trans (((zfar NB216_228).trans (((zfar NB216_228).trans (((zfar NB216_228).trans (((zfar NB216_228).trans (((zfar NB216_228).trans (hHeld.2.2.2.2.2.1)))))))))))), ((zfar NB216_228).trans (((zfar NB216_228).trans (((zfar NB216_228).trans (((zfar NB216_228).trans (((zfar NB216_228).trans (((zfar NB216_228).trans (hHeld.2.2.2.2.2.2.1)))))))))))), ((zfar NB216_228).trans (((zfar NB216_228).trans (((zfar NB216_228).trans (((zfar NB216_228).trans (((zfar NB216_228).trans (((zfar NB216_228).trans (hHeld.2.2.2.2.2.2.2.1)))))))))))), ((zfar NB216_228).trans (((zfar NB216_228).trans (((zfar NB216_228).trans (((zfar NB216_228).trans (((zfar NB216_228).trans (((zfar NB216_228).trans (hHeld.2.2.2.2.2.2.2.2.1)))))))))))), ((cell_far (p := ⟨gb228, _, none⟩) (znb hw218_0 GW228.out (by first | rfl | simp only [add_block])) _).trans (((cell_far (p := ⟨gb228, _, none⟩) (znb hw218_0 GW228.out (by first | rfl | simp only [add_block])) _).trans (((cell_far (p := ⟨gb228, _, none⟩) (znb hw218_0 GW228.out (by first | rfl | simp only [add_block])) _).trans (((cell_far (p := ⟨gb228, _, none⟩) (znb hw218_0 GW228.out (by first | rfl | simp only [add_block])) _).trans (((cell_far (p := ⟨gb228, _, none⟩) (znb hw218_0 GW228.out (by first | rfl | simp only [add_block])) _).trans (((cell_far (p := ⟨gb228, _, none⟩) (znb hw218_0 GW228.out (by first | rfl | simp only [add_block])) _).trans (hHeld.2.2.2.2.2.2.2.2.2))))))))))))⟩ (fun hHeld => ?_)
          clear hK K
          refine pure_ (i := 13) (N := some 11) (v := ?_) (a' := ?_) #[zT, zT, zT, zT, zT, zT, zT, zT, zT, zT, zT, zT, zT, zT] rfl rfl (any_of HT_.out (by kernel_rfl)) (fun _ _ _ h => h) (Or.inl ⟨by rfl, ?_⟩) ?_ ?_
          rotate_left
          ·intro w'
           go_simp
           with_reducible rfl
          rotate_left
          ·simp only [Act.put, zp1, zp2, zp3, i64_w, i32_w]
           rfl
          refine done_ (done_of HT_.out (by kernel_rfl)) ?_
          have hnb48 := NB228_211.out
          have hnc48 := NB211_228.out
          have hnb49 := NB228_212.out
          have hnc49 := NB212_228.out
          have hnb50 := NB228_216.out
          have hnc50 := NB216_228.out
          have hcz51_0 := zc0 BK228 0 rfl
          have hcz51_1 := zc0 BK228 1 rfl
          have hcz51_2 := zc0 BK228 2 rfl
          have hcz51_3 := zc0 BK228 3 rfl
          have hcz51_4 := zc0 BK228 4 rfl
          have hcz51_5 := zc0 BK228 5 rfl
          have hfz51_0 := blk_frozen BK228.out 0
          have hfz51_1 := blk_frozen BK228.out 1
          have hfz51_2 := blk_frozen BK228.out 2
          have hfz51_3 := blk_frozen BK228.out 3
          have hfz51_4 := blk_frozen BK228.out 4
          have hfz51_5 := blk_frozen BK228.out 5
          have hnb52 := NB216_211.out
          have hnc52 := NB211_216.out
          have hnb53 := NB216_212.out
          have hnc53 := NB212_216.out
          have hcz54_0 := zc0 BK216 0 rfl
          have hcz54_1 := zc0 BK216 1 rfl
          have hcz54_2 := zc0 BK216 2 rfl
          have hcz54_3 := zc0 BK216 3 rfl
          have hcz54_4 := zc0 BK216 4 rfl
          have hcz54_5 := zc0 BK216 5 rfl
          have hfz54_0 := blk_frozen BK216.out 0
          have hfz54_1 := blk_frozen BK216.out 1
          have hfz54_2 := blk_frozen BK216.out 2
          have hfz54_3 := blk_frozen BK216.out 3
          have hfz54_4 := blk_frozen BK216.out 4
          have hfz54_5 := blk_frozen BK216.out 5
          try go_wp2
          have n0_ : Aside0 (Kd.R (Kd.int .i64) 3 ((((((((((((w40.setCell ⟨gb228, 0, none⟩ (.slice Ao41 t219.length co41)).setCell ⟨gb228, 1, none⟩ (.int .i64 t222)).setCell ⟨gb228, 2, none⟩ (.int .i64 t223)).setCell ⟨gb228, 3, none⟩ (.int .i64 t224)).setCell ⟨gb228, 4, none⟩ (.int .i64 t225)).setCell ⟨gb228, 5, none⟩ (.int .i64 t226)).setCell ⟨gb216, 0, none⟩ (.slice Ao41 t219.length co41)).setCell ⟨gb216, 1, none⟩ (.int .i64 t222)).setCell ⟨gb216, 2, none⟩ (.int .i64 t223)).setCell ⟨gb216, 3, none⟩ (.int .i64 t224)).setCell ⟨gb216, 4, none⟩ (.int .i64 t225)).setCell ⟨gb216, 5, none⟩ (.int .i64 t226)) w.heap.size (fun _ => True) (.slice Ao41 t219.length co41) t219) := ⟨by (with_reducible repeat (first | apply Kd.R_alloc | apply Kd.R_drewN | apply Kd.R_drew)); exact Kd.R_mono (Kd.R_far (p := ⟨gb216, 5, none⟩) (Kd.R_far (p := ⟨gb216, 4, none⟩) (Kd.R_far (p := ⟨gb216, 3, none⟩) (Kd.R_far (p := ⟨gb216, 2, none⟩) (Kd.R_far (p := ⟨gb216, 1, none⟩) (Kd.R_far (p := ⟨gb216, 0, none⟩) (Kd.R_far (p := ⟨gb228, 5, none⟩) (Kd.R_far (p := ⟨gb228, 4, none⟩) (Kd.R_far (p := ⟨gb228, 3, none⟩) (Kd.R_far (p := ⟨gb228, 2, none⟩) (Kd.R_far (p := ⟨gb228, 1, none⟩) (Kd.R_far (p := ⟨gb228, 0, none⟩) (Kd.R_types (Kd.R_types HO221.out BK228.out (by decide)) BK216.out (by decide)) (fun _ hk => hk.1.2) (.slice Ao41 t219.length co41)) (fun _ hk => hk.1.2) (.int .i64 t222)) (fun _ hk => hk.1.2) (.int .i64 t223)) (fun _ hk => hk.1.2) (.int .i64 t224)) (fun _ hk => hk.1.2) (.int .i64 t225)) (fun _ hk => hk.1.2) (.int .i64 t226)) (fun _ hk => hk.2) (.slice Ao41 t219.length co41)) (fun _ hk => hk.2) (.int .i64 t222)) (fun _ hk => hk.2) (.int .i64 t223)) (fun _ hk => hk.2) (.int .i64 t224)) (fun _ hk => hk.2) (.int .i64 t225)) (fun _ hk => hk.2) (.int .i64 t226)) (fun _ hk => trivial)⟩
          have n1_ : Aside0 (((((((((((((w40.setCell ⟨gb228, 0, none⟩ (.slice Ao41 t219.length co41)).setCell ⟨gb228, 1, none⟩ (.int .i64 t222)).setCell ⟨gb228, 2, none⟩ (.int .i64 t223)).setCell ⟨gb228, 3, none⟩ (.int .i64 t224)).setCell ⟨gb228, 4, none⟩ (.int .i64 t225)).setCell ⟨gb228, 5, none⟩ (.int .i64 t226)).setCell ⟨gb216, 0, none⟩ (.slice Ao41 t219.length co41)).setCell ⟨gb216, 1, none⟩ (.int .i64 t222)).setCell ⟨gb216, 2, none⟩ (.int .i64 t223)).setCell ⟨gb216, 3, none⟩ (.int .i64 t224)).setCell ⟨gb216, 4, none⟩ (.int .i64 t225)).setCell ⟨gb216, 5, none⟩ (.int .i64 t226)).heap[gb211]? = some (.cells #[.int .i64 a0_0, .int .i64 a0_1, .int .i64 a0_2] 60 (0, 0))) := ⟨by (with_reducible repeat (first | refine blk_drewN ?_ _ | refine blk_drew ?_ | refine blk_alloc ?_ _)); refine blk_far ?_ NB211_216.out _; refine blk_far ?_ NB211_216.out _; refine blk_far ?_ NB211_216.out _; refine blk_far ?_ NB211_216.out _; refine blk_far ?_ NB211_216.out _; refine blk_far ?_ NB211_216.out _; refine blk_far ?_ NB211_228.out _; refine blk_far ?_ NB211_228.out _; refine blk_far ?_ NB211_228.out _; refine blk_far ?_ NB211_228.out _; refine blk_far ?_ NB211_228.out _; refine blk_far ?_ NB211_228.out _; (with_reducible repeat (first | refine blk_drewN ?_ _ | refine blk_drew ?_ | refine blk_alloc ?_ _)); exact BK211.out⟩
          have n2_ : Aside0 (((((((((((((w40.setCell ⟨gb228, 0, none⟩ (.slice Ao41 t219.length co41)).setCell ⟨gb228, 1, none⟩ (.int .i64 t222)).setCell ⟨gb228, 2, none⟩ (.int .i64 t223)).setCell ⟨gb228, 3, none⟩ (.int .i64 t224)).setCell ⟨gb228, 4, none⟩ (.int .i64 t225)).setCell ⟨gb228, 5, none⟩ (.int .i64 t226)).setCell ⟨gb216, 0, none⟩ (.slice Ao41 t219.length co41)).setCell ⟨gb216, 1, none⟩ (.int .i64 t222)).setCell ⟨gb216, 2, none⟩ (.int .i64 t223)).setCell ⟨gb216, 3, none⟩ (.int .i64 t224)).setCell ⟨gb216, 4, none⟩ (.int .i64 t225)).setCell ⟨gb216, 5, none⟩ (.int .i64 t226)).heap[gb212]? = some (.cells #[.slice none 0 0, .int .i64 x213001_2, .int .i64 x213002_2, .int .i64 x213003_2, .int .i64 x213004_2, .int .i64 x213005_2] 115 (0, 0))) := ⟨by (with_reducible repeat (first | refine blk_drewN ?_ _ | refine blk_drew ?_ | refine blk_alloc ?_ _)); refine blk_far ?_ NB212_216.out _; refine blk_far ?_ NB212_216.out _; refine blk_far ?_ NB212_216.out _; refine blk_far ?_ NB212_216.out _; refine blk_far ?_ NB212_216.out _; refine blk_far ?_ NB212_216.out _; refine blk_far ?_ NB212_228.out _; refine blk_far ?_ NB212_228.out _; refine blk_far ?_ NB212_228.out _; refine blk_far ?_ NB212_228.out _; refine blk_far ?_ NB212_228.out _; refine blk_far ?_ NB212_228.out _; (with_reducible repeat (first | refine blk_drewN ?_ _ | refine blk_drew ?_ | refine blk_alloc ?_ _)); exact BK212.out⟩
          have n3_ : Aside0 (((((((((((((w40.setCell ⟨gb228, 0, none⟩ (.slice Ao41 t219.length co41)).setCell ⟨gb228, 1, none⟩ (.int .i64 t222)).setCell ⟨gb228, 2, none⟩ (.int .i64 t223)).setCell ⟨gb228, 3, none⟩ (.int .i64 t224)).setCell ⟨gb228, 4, none⟩ (.int .i64 t225)).setCell ⟨gb228, 5, none⟩ (.int .i64 t226)).setCell ⟨gb216, 0, none⟩ (.slice Ao41 t219.length co41)).setCell ⟨gb216, 1, none⟩ (.int .i64 t222)).setCell ⟨gb216, 2, none⟩ (.int .i64 t223)).setCell ⟨gb216, 3, none⟩ (.int .i64 t224)).setCell ⟨gb216, 4, none⟩ (.int .i64 t225)).setCell ⟨gb216, 5, none⟩ (.int .i64 t226)).heap[gb216]? = some (.cells #[.slice Ao41 t219.length co41, .int .i64 t222, .int .i64 t223, .int .i64 t224, .int .i64 t225, .int .i64 t226] 115 (0, 0))) := ⟨by (with_reducible repeat (first | refine blk_drewN ?_ _ | refine blk_drew ?_ | refine blk_alloc ?_ _)); refine blk_put (cs := #[.slice Ao41 t219.length co41, .int .i64 t222, .int .i64 t223, .int .i64 t224, .int .i64 t225, .int .i64 x217005_2]) ?_ 5 _ rfl; refine blk_put (cs := #[.slice Ao41 t219.length co41, .int .i64 t222, .int .i64 t223, .int .i64 t224, .int .i64 x217004_2, .int .i64 x217005_2]) ?_ 4 _ rfl; refine blk_put (cs := #[.slice Ao41 t219.length co41, .int .i64 t222, .int .i64 t223, .int .i64 x217003_2, .int .i64 x217004_2, .int .i64 x217005_2]) ?_ 3 _ rfl; refine blk_put (cs := #[.slice Ao41 t219.length co41, .int .i64 t222, .int .i64 x217002_2, .int .i64 x217003_2, .int .i64 x217004_2, .int .i64 x217005_2]) ?_ 2 _ rfl; refine blk_put (cs := #[.slice Ao41 t219.length co41, .int .i64 x217001_2, .int .i64 x217002_2, .int .i64 x217003_2, .int .i64 x217004_2, .int .i64 x217005_2]) ?_ 1 _ rfl; refine blk_put (cs := #[.slice Ao36 x217000_2.length co36, .int .i64 x217001_2, .int .i64 x217002_2, .int .i64 x217003_2, .int .i64 x217004_2, .int .i64 x217005_2]) ?_ 0 _ rfl; refine blk_far ?_ NB216_228.out _; refine blk_far ?_ NB216_228.out _; refine blk_far ?_ NB216_228.out _; refine blk_far ?_ NB216_228.out _; refine blk_far ?_ NB216_228.out _; refine blk_far ?_ NB216_228.out _; (with_reducible repeat (first | refine blk_drewN ?_ _ | refine blk_drew ?_ | refine blk_alloc ?_ _)); exact BK216.out⟩
          have n4_ : Aside0 (((((((((((((w40.setCell ⟨gb228, 0, none⟩ (.slice Ao41 t219.length co41)).setCell ⟨gb228, 1, none⟩ (.int .i64 t222)).setCell ⟨gb228, 2, none⟩ (.int .i64 t223)).setCell ⟨gb228, 3, none⟩ (.int .i64 t224)).setCell ⟨gb228, 4, none⟩ (.int .i64 t225)).setCell ⟨gb228, 5, none⟩ (.int .i64 t226)).setCell ⟨gb216, 0, none⟩ (.slice Ao41 t219.length co41)).setCell ⟨gb216, 1, none⟩ (.int .i64 t222)).setCell ⟨gb216, 2, none⟩ (.int .i64 t223)).setCell ⟨gb216, 3, none⟩ (.int .i64 t224)).setCell ⟨gb216, 4, none⟩ (.int .i64 t225)).setCell ⟨gb216, 5, none⟩ (.int .i64 t226)).heap[gb228]? = some (.cells #[.slice Ao41 t219.length co41, .int .i64 t222, .int .i64 t223, .int .i64 t224, .int .i64 t225, .int .i64 t226] 115 (0, 0))) := ⟨by (with_reducible repeat (first | refine blk_drewN ?_ _ | refine blk_drew ?_ | refine blk_alloc ?_ _)); refine blk_far ?_ NB228_216.out _; refine blk_far ?_ NB228_216.out _; refine blk_far ?_ NB228_216.out _; refine blk_far ?_ NB228_216.out _; refine blk_far ?_ NB228_216.out _; refine blk_far ?_ NB228_216.out _; refine blk_put (cs := #[.slice Ao41 t219.length co41, .int .i64 t222, .int .i64 t223, .int .i64 t224, .int .i64 t225, .int .i64 0]) ?_ 5 _ rfl; refine blk_put (cs := #[.slice Ao41 t219.length co41, .int .i64 t222, .int .i64 t223, .int .i64 t224, .int .i64 0, .int .i64 0]) ?_ 4 _ rfl; refine blk_put (cs := #[.slice Ao41 t219.length co41, .int .i64 t222, .int .i64 t223, .int .i64 0, .int .i64 0, .int .i64 0]) ?_ 3 _ rfl; refine blk_put (cs := #[.slice Ao41 t219.length co41, .int .i64 t222, .int .i64 0, .int .i64 0, .int .i64 0, .int .i64 0]) ?_ 2 _ rfl; refine blk_put (cs := #[.slice Ao41 t219.length co41, .int .i64 0, .int .i64 0, .int .i64 0, .int .i64 0, .int .i64 0]) ?_ 1 _ rfl; refine blk_put (cs := #[.slice none 0 0, .int .i64 0, .int .i64 0, .int .i64 0, .int .i64 0, .int .i64 0]) ?_ 0 _ rfl; (with_reducible repeat (first | refine blk_drewN ?_ _ | refine blk_drew ?_ | refine blk_alloc ?_ _)); exact BK228.out⟩
          have n5_ : Aside0 (Below w.heap.size w ((((((((((((w40.setCell ⟨gb228, 0, none⟩ (.slice Ao41 t219.length co41)).setCell ⟨gb228, 1, none⟩ (.int .i64 t222)).setCell ⟨gb228, 2, none⟩ (.int .i64 t223)).setCell ⟨gb228, 3, none⟩ (.int .i64 t224)).setCell ⟨gb228, 4, none⟩ (.int .i64 t225)).setCell ⟨gb228, 5, none⟩ (.int .i64 t226)).setCell ⟨gb216, 0, none⟩ (.slice Ao41 t219.length co41)).setCell ⟨gb216, 1, none⟩ (.int .i64 t222)).setCell ⟨gb216, 2, none⟩ (.int .i64 t223)).setCell ⟨gb216, 3, none⟩ (.int .i64 t224)).setCell ⟨gb216, 4, none⟩ (.int .i64 t225)).setCell ⟨gb216, 5, none⟩ (.int .i64 t226))) := ⟨by repeat (first | exact zh0 HB | refine below_set ?_ GE211.out | refine below_set ?_ GE212.out | refine below_set ?_ GE216.out | refine below_set ?_ GE228.out)⟩
          (try clear HO221)
          (try clear BK211)
          (try clear BK212)
          (try clear BK216)
          (try clear BK228)
          (try clear HB)
          generalize ((((((((((((w40.setCell ⟨gb228, 0, none⟩ (.slice Ao41 t219.length co41)).setCell ⟨gb228, 1, none⟩ (.int .i64 t222)).setCell ⟨gb228, 2, none⟩ (.int .i64 t223)).setCell ⟨gb228, 3, none⟩ (.int .i64 t224)).setCell ⟨gb228, 4, none⟩ (.int .i64 t225)).setCell ⟨gb228, 5, none⟩ (.int .i64 t226)).setCell ⟨gb216, 0, none⟩ (.slice Ao41 t219.length co41)).setCell ⟨gb216, 1, none⟩ (.int .i64 t222)).setCell ⟨gb216, 2, none⟩ (.int .i64 t223)).setCell ⟨gb216, 3, none⟩ (.int .i64 t224)).setCell ⟨gb216, 4, none⟩ (.int .i64 t225)).setCell ⟨gb216, 5, none⟩ (.int .i64 t226)) = w55 at n0_ n1_ n2_ n3_ n4_ n5_ ⊢
          have HO221 := n0_
          have BK211 := n1_
          have BK212 := n2_
          have BK216 := n3_
          have BK228 := n4_
          have HB := n5_
          clear n0_ n1_ n2_ n3_ n4_ n5_
          replace HO221 := Aside0.mk (Kd.R_drew HO221.out)
          replace BK211 := Aside0.mk (blk_drew BK211.out)
          replace BK212 := Aside0.mk (blk_drew BK212.out)
          replace BK216 := Aside0.mk (blk_drew BK216.out)
          replace BK228 := Aside0.mk (blk_drew BK228.out)
          replace HB := Aside0.mk (below_drew1 HB.out)
          refine start_ (n := 9) (S := fun w' => w'.cell? ⟨gb216, 0, none⟩ = some (.slice Ao41 t219.length co41) ∧ w'.cell? ⟨gb216, 1, none⟩ = some (.int .i64 t222) ∧ w'.cell? ⟨gb216, 2, none⟩ = some (.int .i64 t223) ∧ w'.cell? ⟨gb216, 3, none⟩ = some (.int .i64 t224) ∧ w'.cell? ⟨gb216, 4, none⟩ = some (.int .i64 t225) ∧ w'.cell? ⟨gb216, 5, none⟩ = some (.int .i64 t226)) (ds := [8]) #[zF, zF, zF, zF, zF, zF, zF, zF, zF] (by kernel_rfl) rfl rfl ⟨zc0 BK216 0 rfl, zc0 BK216 1 rfl, zc0 BK216 2 rfl, zc0 BK216 3 rfl, zc0 BK216 4 rfl, zc0 BK216 5 rfl⟩ (fun hHeld => ?_); refine with_tabW spec_l4All.tab11 spec_l4All.bits11 (fun HT_ HW_ => ?_)
          generalize w55.drew = w56 at HO221 BK211 BK212 BK216 BK228 HB hHeld ⊢
          refine pure_ (i := 0) (N := some 45) (v := ?_) (a' := ?_) #[zT, zF, zF, zF, zF, zF, zF, zF, zF] rfl rfl (any_of HT_.out (by kernel_rfl)) (fun _ _ _ h => h) (Or.inl ⟨by rfl, ?_⟩) ?_ ?_
          rotate_left
          ·intro w'
           go_simp
           with_reducible rfl
          rotate_left
          ·simp only [Act.put, zp1, zp2, zp3, i64_w, i32_w]
           rfl
          refine pure_ (i := 3) (N := some 48) (v := ?_) (a' := ?_) #[zT, zF, zF, zT, zF, zF, zF, zF, zF] rfl rfl (any_of HT_.out (by kernel_rfl)) (fun _ _ _ h => h) (Or.inl ⟨by rfl, ?_⟩) ?_ ?_
          rotate_left
          ·intro w'
           go_simp
           with_reducible rfl
          rotate_left
          ·simp only [Act.put, zp1, zp2, zp3, i64_w, i32_w]
           rfl
          refine take_ (i := 1) (N := some 46) (v := ?_) (a' := ?_) #[zT, zT, zF, zT, zF, zF, zF, zF, zF] rfl rfl (take_ofW HT_.out HW_.out (by kernel_rfl)) (fun _ _ _ h => h) (Or.inl ⟨by rfl, ?_⟩) hHeld ?_ ?_
          rotate_left
          ·rintro w' ⟨s0, s1, s2, s3, s4, s5⟩
           go_simp
           with_reducible rfl
          rotate_left
          ·simp only [Act.put, zp1, zp2, zp3, i64_w, i32_w]
           rfl
          refine take_ (i := 4) (N := some 49) (v := ?_) (a' := ?_) #[zT, zT, zF, zT, zT, zF, zF, zF, zF] rfl rfl (take_ofW HT_.out HW_.out (by kernel_rfl)) (fun _ _ _ h => h) (Or.inl ⟨by rfl, ?_⟩) hHeld ?_ ?_
          rotate_left
          ·rintro w' ⟨s0, s1, s2, s3, s4, s5⟩
           go_simp
           with_reducible rfl
          rotate_left
          ·simp only [Act.put, zp1, zp2, zp3, i64_w, i32_w]
           rfl
          refine join_ (σ := Value × Value) 3 #[zT, zT, zT, zT, zT, zT, zF, zF, zF] (fun s_ => [(47, s_.1), (50, s_.2)]) (fun s_ w' => (w'.cell? ⟨gb216, 0, none⟩ = some (.slice Ao41 t219.length co41) ∧ w'.cell? ⟨gb216, 1, none⟩ = some (.int .i64 t222) ∧ w'.cell? ⟨gb216, 2, none⟩ = some (.int .i64 t223) ∧ w'.cell? ⟨gb216, 3, none⟩ = some (.int .i64 t224) ∧ w'.cell? ⟨gb216, 4, none⟩ = some (.int .i64 t225) ∧ w'.cell? ⟨gb216, 5, none⟩ = some (.int .i64 t226)) ∧ (Kd.R (Kd.int .i64) 3 w' w.heap.size (fun k_ => some k_ ≠ (s_.1 : Value).ownBlock ∧ some k_ ≠ (s_.2 : Value).ownBlock) (.slice Ao41 t219.length co41) t219) ∧ (Kd.R (Kd.int .i64) 3 w' w.heap.size (fun k_ => some k_ ≠ (.slice Ao41 t219.length co41 : Value).ownBlock ∧ some k_ ≠ (s_.2 : Value).ownBlock) s_.1 t229) ∧ (Kd.R (Kd.int .i64) 3 w' w.heap.size (fun k_ => some k_ ≠ (.slice Ao41 t219.length co41 : Value).ownBlock ∧ some k_ ≠ (s_.1 : Value).ownBlock) s_.2 y232) ∧ (w'.heap[gb211]? = some (.cells #[.int .i64 a0_0, .int .i64 a0_1, .int .i64 a0_2] 60 (0, 0))) ∧ (w'.heap[gb212]? = some (.cells #[.slice none 0 0, .int .i64 x213001_2, .int .i64 x213002_2, .int .i64 x213003_2, .int .i64 x213004_2, .int .i64 x213005_2] 115 (0, 0))) ∧ (w'.heap[gb216]? = some (.cells #[.slice Ao41 t219.length co41, .int .i64 t222, .int .i64 t223, .int .i64 t224, .int .i64 t225, .int .i64 t226] 115 (0, 0))) ∧ (w'.heap[gb228]? = some (.cells #[.slice Ao41 t219.length co41, .int .i64 t222, .int .i64 t223, .int .i64 t224, .int .i64 t225, .int .i64 t226] 115 (0, 0))) ∧ (Below w.heap.size w w')) ?_ ?_
          rotate_left
          ·intro hCont
           refine two_ (i := 2) (j := 5) (Ni := some 47) (Nj := some 50) #[zT, zT, zT, zT, zT, zF, zF, zF, zF] #[zT, zT, zF, zT, zT, zT, zF, zF, zF] rfl rfl rfl rfl (two_of HT_.out (by kernel_rfl)) (by decide) (by decide) (fun K hK => ?_) (fun K hK => ?_)
           ·skip
            refine goes_ Try.func109 (by kernel_rfl) rfl #[.slice Ao41 t219.length co41] (by rfl) rfl rfl (by (try simp only [zq1, zq2, zq3]); first | done | rfl | (simp only [List.length_drop, List.length_take]; rfl)) ?_
            with_reducible refine (spec_l1Own.calls _ _ t219 t229 _ ?side1 ?side2 A34.out).mono ?_
            (case side1 => repeat (first | exact (Kd.R_reads' HO221.out).2.2 | (with_reducible refine Kd.C_alloc ?_ _) | (with_reducible refine Kd.C_drewN ?_ _) | (with_reducible refine Kd.C_drew ?_)))
            (case side2 => exact (Kd.R_reads' HO221.out).2.1)
            rintro e w57 ⟨v230, rfl, ho0, hb⟩
            refine ⟨_, rfl, ?_⟩
            have HO231 := Aside0.mk (Kd.R_lower (Kd.R_new' ho0 (Kd.R_lt (zr0 HO221))) (below_size (zh0 HB)))
            replace HO221 := Aside0.mk (Kd.R_elder' (zr0 HO221) (Kd.R_base ho0) hb)
            replace BK211 := zb0 BK211 hb
            replace BK212 := zb0 BK212 hb
            replace BK216 := zb0 BK216 hb
            replace BK228 := zb0 BK228 hb
            replace HB := zhs HB hb
            (try clear hb)
            (try clear hb2)
            (try clear hk)
            (try clear hi)
            (try clear ho0)
            refine hK.out _ _ ⟨zc0 BK216 0 rfl, zc0 BK216 1 rfl, zc0 BK216 2 rfl, zc0 BK216 3 rfl, zc0 BK216 4 rfl, zc0 BK216 5 rfl⟩ (fun hHeld => ?_)
            clear hK K
            refine norm_ (a' := ?_) ?_ ?_
            rotate_left
            ·show Act.put _ (some 47) _ = _
             simp only [Act.put, zp1, zp2, zp3, i64_w, i32_w]
             rfl
            refine one_ (i := 5) (N := some 50) #[zT, zT, zT, zT, zT, zT, zF, zF, zF] rfl rfl (one_of HT_.out (by kernel_rfl)) (by decide) (fun K hK => ?_)
            refine Kd.R_lit_step (Kd.int .i64) _ 3 ?hg (N := 50) ?hd (xs := ([t226] : List Int)) (inner := [.int .i64 t226]) (ok := fun _ => True) (okp := fun _ => True) ?hr ?hp (fun _ hk => hk) trivial (Below.refl _ _) (Nat.le_refl _) (by simp) ?_; (case hd => rfl); (case hg => rfl); (case hr => first | (go_simp; done) | (go_simp; rfl)); (case hp => exact (Reps.one (show Kd.M (Kd.int .i64) _ _ _ t226 [.int .i64 t226] from rfl) (Reps.none _ _)))
            intro v233 w58 ho59 hb hg_ hnew_
            clear hg_ hnew_
            (first | rw [← Ny232.out] at ho59 | (simp only [Int.reduceToNat] at ho59; rw [← Ny232.out] at ho59))
            have HO234 := Aside0.mk (Kd.R_lower (Kd.R_new' (Kd.R_new' ho59 (Kd.R_lt (zr0 HO221))) (Kd.R_lt (zr0 HO231))) (below_size (zh0 HB)))
            replace HO221 := Aside0.mk (Kd.R_elder' (zr0 HO221) (Kd.R_base ho59) hb)
            replace HO231 := Aside0.mk (Kd.R_elder' (zr0 HO231) (Kd.R_base ho59) hb)
            replace BK211 := zb0 BK211 hb
            replace BK212 := zb0 BK212 hb
            replace BK216 := zb0 BK216 hb
            replace BK228 := zb0 BK228 hb
            replace HB := zhs HB hb
            clear hb ho59
            refine hK.out _ _ ⟨zc0 BK216 0 rfl, zc0 BK216 1 rfl, zc0 BK216 2 rfl, zc0 BK216 3 rfl, zc0 BK216 4 rfl, zc0 BK216 5 rfl⟩ (fun hHeld => ?_)
            clear hK K
            refine norm_ (a' := ?_) ?_ ?_
            rotate_left
            ·show Act.put _ (some 50) _ = _
             simp only [Act.put, zp1, zp2, zp3, i64_w, i32_w]
             rfl
            exact norm_ (by simp only [putAll, Act.put, zp1, zp2, zp3]) (hCont (v230, v233) _ ⟨hHeld, (by (with_reducible repeat (first | apply Kd.R_alloc | apply Kd.R_drewN | apply Kd.R_drew)); exact Kd.R_mono HO221.out (fun _ hk => ⟨hk.1.2, hk.2⟩)), (by (with_reducible repeat (first | apply Kd.R_alloc | apply Kd.R_drewN | apply Kd.R_drew)); exact Kd.R_mono HO231.out (fun _ hk => ⟨hk.1.2, hk.2⟩)), (by (with_reducible repeat (first | apply Kd.R_alloc | apply Kd.R_drewN | apply Kd.R_drew)); exact Kd.R_mono HO234.out (fun _ hk => ⟨hk.1.2, hk.2⟩)), (zk0 BK211), (zk0 BK212), (zk0 BK216), (zk0 BK228), (zh0 HB)⟩)
           ·skip
            refine Kd.R_lit_step (Kd.int .i64) _ 3 ?hg (N := 50) ?hd (xs := ([t226] : List Int)) (inner := [.int .i64 t226]) (ok := fun _ => True) (okp := fun _ => True) ?hr ?hp (fun _ hk => hk) trivial (Below.refl _ _) (Nat.le_refl _) (by simp) ?_; (case hd => rfl); (case hg => rfl); (case hr => first | (go_simp; done) | (go_simp; rfl)); (case hp => exact (Reps.one (show Kd.M (Kd.int .i64) _ _ _ t226 [.int .i64 t226] from rfl) (Reps.none _ _)))
            intro v233 w57 ho58 hb hg_ hnew_
            clear hg_ hnew_
            (first | rw [← Ny232.out] at ho58 | (simp only [Int.reduceToNat] at ho58; rw [← Ny232.out] at ho58))
            have HO234 := Aside0.mk (Kd.R_lower (Kd.R_new' ho58 (Kd.R_lt (zr0 HO221))) (below_size (zh0 HB)))
            replace HO221 := Aside0.mk (Kd.R_elder' (zr0 HO221) (Kd.R_base ho58) hb)
            replace BK211 := zb0 BK211 hb
            replace BK212 := zb0 BK212 hb
            replace BK216 := zb0 BK216 hb
            replace BK228 := zb0 BK228 hb
            replace HB := zhs HB hb
            clear hb ho58
            refine hK.out _ _ ⟨zc0 BK216 0 rfl, zc0 BK216 1 rfl, zc0 BK216 2 rfl, zc0 BK216 3 rfl, zc0 BK216 4 rfl, zc0 BK216 5 rfl⟩ (fun hHeld => ?_)
            clear hK K
            refine norm_ (a' := ?_) ?_ ?_
            rotate_left
            ·show Act.put _ (some 50) _ = _
             simp only [Act.put, zp1, zp2, zp3, i64_w, i32_w]
             rfl
            refine one_ (i := 2) (N := some 47) #[zT, zT, zT, zT, zT, zT, zF, zF, zF] rfl rfl (one_of HT_.out (by kernel_rfl)) (by decide) (fun K hK => ?_)
            refine goes_ Try.func109 (by kernel_rfl) rfl #[.slice Ao41 t219.length co41] (by rfl) rfl rfl (by (try simp only [zq1, zq2, zq3]); first | done | rfl | (simp only [List.length_drop, List.length_take]; rfl)) ?_
            with_reducible refine (spec_l1Own.calls _ _ t219 t229 _ ?side1 ?side2 A34.out).mono ?_
            (case side1 => repeat (first | exact (Kd.R_reads' HO221.out).2.2 | (with_reducible refine Kd.C_alloc ?_ _) | (with_reducible refine Kd.C_drewN ?_ _) | (with_reducible refine Kd.C_drew ?_)))
            (case side2 => exact (Kd.R_reads' HO221.out).2.1)
            rintro e w59 ⟨v230, rfl, ho0, hb⟩
            refine ⟨_, rfl, ?_⟩
            have HO231 := Aside0.mk (Kd.R_lower (Kd.R_new' (Kd.R_new' ho0 (Kd.R_lt (zr0 HO221))) (Kd.R_lt (zr0 HO234))) (below_size (zh0 HB)))
            replace HO221 := Aside0.mk (Kd.R_elder' (zr0 HO221) (Kd.R_base ho0) hb)
            replace HO234 := Aside0.mk (Kd.R_elder' (zr0 HO234) (Kd.R_base ho0) hb)
            replace BK211 := zb0 BK211 hb
            replace BK212 := zb0 BK212 hb
            replace BK216 := zb0 BK216 hb
            replace BK228 := zb0 BK228 hb
            replace HB := zhs HB hb
            (try clear hb)
            (try clear hb2)
            (try clear hk)
            (try clear hi)
            (try clear ho0)
            refine hK.out _ _ ⟨zc0 BK216 0 rfl, zc0 BK216 1 rfl, zc0 BK216 2 rfl, zc0 BK216 3 rfl, zc0 BK216 4 rfl, zc0 BK216 5 rfl⟩ (fun hHeld => ?_)
            clear hK K
            refine norm_ (a' := ?_) ?_ ?_
            rotate_left
            ·show Act.put _ (some 47) _ = _
             simp only [Act.put, zp1, zp2, zp3, i64_w, i32_w]
             rfl
            exact norm_ (by simp only [putAll, Act.put, zp1, zp2, zp3]) (hCont (v230, v233) _ ⟨hHeld, (by (with_reducible repeat (first | apply Kd.R_alloc | apply Kd.R_drewN | apply Kd.R_drew)); exact Kd.R_mono HO221.out (fun _ hk => ⟨hk.2, hk.1.2⟩)), (by (with_reducible repeat (first | apply Kd.R_alloc | apply Kd.R_drewN | apply Kd.R_drew)); exact Kd.R_mono HO231.out (fun _ hk => ⟨hk.1.2, hk.2⟩)), (by (with_reducible repeat (first | apply Kd.R_alloc | apply Kd.R_drewN | apply Kd.R_drew)); exact Kd.R_mono HO234.out (fun _ hk => ⟨hk.1.2, hk.2⟩)), (zk0 BK211), (zk0 BK212), (zk0 BK216), (zk0 BK228), (zh0 HB)⟩)
          rintro ⟨v230, v233⟩ w60 ⟨hS_, h0_, h1_, h2_, h3_, h4_, h5_, h6_, h7_⟩
          try dsimp only at hS_ h0_ h1_ h2_ h3_ h4_ h5_ h6_ h7_
          have HO231 := Aside0.mk h1_
          have HO234 := Aside0.mk h2_
          replace HO221 := Aside0.mk h0_
          replace BK211 := Aside0.mk h3_
          replace BK212 := Aside0.mk h4_
          replace BK216 := Aside0.mk h5_
          replace BK228 := Aside0.mk h6_
          replace HB := Aside0.mk h7_
          clear h0_ h1_ h2_ h3_ h4_ h5_ h6_ h7_
          have hHeld := hS_
          obtain ⟨Ao62, co62, eo62⟩ := Kd.R_slice HO234.out
          (first | subst eo62 | (injection eo62 with f1_ f2_ f3_; have f4_ := f1_.symm; have f5_ := f3_.symm; clear f1_ f2_ f3_; subst f4_; subst f5_))
          refine norm_ (a' := ?_) ?_ ?_
          rotate_left
          ·simp only [putAll, Act.put, zp1, zp2, zp3]
           rfl
          refine one_ (i := 6) (N := some 51) #[zT, zT, zT, zT, zT, zT, zT, zF, zF] rfl rfl (one_of HT_.out (by kernel_rfl)) (by decide) (fun K hK => ?_)
          refine Kd.R_append_rows_step (Kd.int .i64) (w0 := w) w.heap.size (by rfl) (.tmp 47) (.tmp 50) 27 3 (.int .i64 0) 8 rfl Try.underlying27 info3 rfl (by decide) (by omega) v230 t229 y232 _ _ _ (fun k_ => some k_ ≠ (.slice Ao41 t219.length co41 : Value).ownBlock ∧ some k_ ≠ (.slice Ao62 y232.length co62 : Value).ownBlock) (fun _ => False) rfl rfl ?aO ?aR (fun _ _ h => h) (fun _ h => h.elim) ?aF ?aB ?aS ?aL ?_
          (case aR => repeat (first | exact (Kd.R_reads' HO234.out).2.2 | (with_reducible refine Kd.C_alloc ?_ _) | (with_reducible refine Kd.C_drewN ?_ _) | (with_reducible refine Kd.C_drew ?_)))
          (case aB => exact (zh0 HB))
          (case aF => exact (fun k_ hk => ⟨Kd.fresh' (Kd.R_lt (zr0 HO221)) k_ hk, Kd.fresh' (Kd.R_lt (zr0 HO234)) k_ hk⟩))
          (case aO => exact (zr0 HO231))
          (case aS => exact (below_size (zh0 HB)))
          (case aL => have := LMc35.out; omega)
          intro v236 w61 ho hb hg hat
          rw [← Ny235.out] at ho
          have n0_ := Aside0.mk (blk_grown (g := gb211) (o := .cells #[.int .i64 a0_0, .int .i64 a0_1, .int .i64 a0_2] 60 (0, 0)) (zk0 BK211) hg (Kd.R_ne HO231.out BK211.out (by decide)))
          have n1_ := Aside0.mk (blk_grown (g := gb212) (o := .cells #[.slice none 0 0, .int .i64 x213001_2, .int .i64 x213002_2, .int .i64 x213003_2, .int .i64 x213004_2, .int .i64 x213005_2] 115 (0, 0)) (zk0 BK212) hg (Kd.R_ne HO231.out BK212.out (by decide)))
          have n2_ := Aside0.mk (blk_grown (g := gb216) (o := .cells #[.slice Ao41 t219.length co41, .int .i64 t222, .int .i64 t223, .int .i64 t224, .int .i64 t225, .int .i64 t226] 115 (0, 0)) (zk0 BK216) hg (Kd.R_ne HO231.out BK216.out (by decide)))
          have n3_ := Aside0.mk (Kd.R_after (ok := (fun k_ => some k_ ≠ (.slice Ao62 y232.length co62 : Value).ownBlock)) (by (with_reducible repeat (first | apply Kd.R_alloc | apply Kd.R_drewN | apply Kd.R_drew)); exact Kd.R_mono HO221.out (fun _ hk => ⟨hk.2, hk.1⟩)) hg hat)
          have n4_ := Aside0.mk (blk_grown (g := gb228) (o := .cells #[.slice Ao41 t219.length co41, .int .i64 t222, .int .i64 t223, .int .i64 t224, .int .i64 t225, .int .i64 t226] 115 (0, 0)) (zk0 BK228) hg (Kd.R_ne HO231.out BK228.out (by decide)))
          have n5_ := Aside0.mk (Kd.R_after (ok := (fun k_ => some k_ ≠ (.slice Ao41 t219.length co41 : Value).ownBlock)) (zr0 HO234) hg hat)
          have n6_ := Aside0.mk (hb)
          have n7_ := Aside0.mk (ho)
          clear BK211
          clear BK212
          clear BK216
          clear HO221
          clear BK228
          clear HO234
          clear HB
          clear HO231
          have BK211 := n0_
          have BK212 := n1_
          have BK216 := n2_
          have HO221 := n3_
          have BK228 := n4_
          have HO234 := n5_
          have HB := n6_
          have HO237 := n7_
          clear n0_ n1_ n2_ n3_ n4_ n5_ n6_ n7_
          clear ho hb hg hat
          obtain ⟨Ao63, co63, eo63⟩ := Kd.R_slice HO237.out
          (first | subst eo63 | (injection eo63 with f1_ f2_ f3_; have f4_ := f1_.symm; have f5_ := f3_.symm; clear f1_ f2_ f3_; subst f4_; subst f5_))
          refine hK.out _ _ ⟨zc0 BK216 0 rfl, zc0 BK216 1 rfl, zc0 BK216 2 rfl, zc0 BK216 3 rfl, zc0 BK216 4 rfl, zc0 BK216 5 rfl⟩ (fun hHeld => ?_)
          clear hK K
          refine norm_ (a' := ?_) ?_ ?_
          rotate_left
          ·show Act.put _ (some 51) _ = _
           simp only [Act.put, zp1, zp2, zp3, i64_w, i32_w]
           rfl
          refine pure_ (i := 7) (N := some 52) (v := ?_) (a' := ?_) #[zT, zT, zT, zT, zT, zT, zT, zT, zF] rfl rfl (any_of HT_.out (by kernel_rfl)) (fun _ _ _ h => h) (Or.inl ⟨by rfl, ?_⟩) ?_ ?_
          rotate_left
          ·intro w'
           go_simp
           with_reducible rfl
          rotate_left
          ·simp only [Act.put, zp1, zp2, zp3, i64_w, i32_w]
           rfl
          refine last_ (i := 8) (N := none) #[zT, zT, zT, zT, zT, zT, zT, zT, zT] rfl rfl (one_of HT_.out (by kernel_rfl)) (by decide) (fun K hK => ?_)
          have hs64 : w61.cell? ⟨gb216, 0, none⟩ = some (.slice Ao41 t219.length co41) := zc0 BK216 0 rfl
          have hfs64 := blk_frozen BK216.out 0
          have hns64_0 := NB211_216.out
          have hns64_1 := NB212_216.out
          have hns64_3 := NB228_216.out
          have hms64_0 := NB216_211.out
          have hms64_1 := NB216_212.out
          have hms64_3 := NB216_228.out
          refine skip_ (w1 := ?_) (by rfl) rfl ?_ ?_
          rotate_left
          ·go_simp
           rfl
          refine hK.out _ _ ?_
          clear hK K
          refine done_ (done_of HT_.out (by kernel_rfl)) ?_
          try go_wp2
          go_roundg k2
          case measure => have := HJ3.out; have := HK2.out; omega
          case rel => exact ⟨(wrap64 (x9_2 + 1)), (x213001_2), (x213002_2), (x213003_2), (x213004_2), (x213005_2), (y235), (t222), (t223), (t224), (t225), (t226), (.slice Ao63 y235.length co63), zfs, H', ⟨by have := HJ3.out; have := HK2.out; omega⟩, ⟨by (with_reducible repeat (first | apply Kd.R_alloc | apply Kd.R_drewN | apply Kd.R_drew)); exact Kd.R_mono (Kd.R_far (p := ⟨gb216, 0, none⟩) (Kd.R_types HO237.out BK216.out (by decide)) (fun _ hk => hk.2) (.slice Ao63 y235.length co63)) (fun _ hk => trivial)⟩, ⟨by (with_reducible repeat (first | refine blk_drewN ?_ _ | refine blk_drew ?_ | refine blk_alloc ?_ _)); refine blk_far ?_ NB211_216.out _; (with_reducible repeat (first | refine blk_drewN ?_ _ | refine blk_drew ?_ | refine blk_alloc ?_ _)); exact BK211.out⟩, ⟨by (with_reducible repeat (first | refine blk_drewN ?_ _ | refine blk_drew ?_ | refine blk_alloc ?_ _)); refine blk_far ?_ NB212_216.out _; (with_reducible repeat (first | refine blk_drewN ?_ _ | refine blk_drew ?_ | refine blk_alloc ?_ _)); exact BK212.out⟩, ⟨by (with_reducible repeat (first | refine blk_drewN ?_ _ | refine blk_drew ?_ | refine blk_alloc ?_ _)); refine blk_put (cs := #[.slice Ao41 t219.length co41, .int .i64 t222, .int .i64 t223, .int .i64 t224, .int .i64 t225, .int .i64 t226]) ?_ 0 _ rfl; (with_reducible repeat (first | refine blk_drewN ?_ _ | refine blk_drew ?_ | refine blk_alloc ?_ _)); exact BK216.out⟩, ⟨by repeat (first | exact zh0 HB | refine below_set ?_ GE211.out | refine below_set ?_ GE212.out | refine below_set ?_ GE216.out | refine below_set ?_ GE228.out)⟩⟩
         ·rw [if_neg c35] at H
          exact absurd H (by simp)
        ·replace c33 := Bool.eq_false_iff.mpr c33
         subst c33
         have H1 : (some ((([] : List Int)), 0, 0, 0, 0, 0, false)) = some (r1, r2, r3, r4, r5, r6, r7) := by rw [if_neg (show ¬ (false = true) by decide)] at H; exact H
         clear H
         have H := H1
         clear H1
         obtain ⟨y238, hy238⟩ : ∃ y_ : List Int, y_ = (([] : List Int)) := ⟨_, rfl⟩
         replace H : (some (y238, 0, 0, 0, 0, 0, false)) = some (r1, r2, r3, r4, r5, r6, r7) := by first | (rw [hy238]; with_reducible exact H) | (have H2_ := (Option.bind_some _ _).symm.trans H; rw [hy238]; with_reducible exact H2_) | (have H2_ := (Option.bind_some _ _).symm.trans H; with_reducible exact H2_) | with_reducible exact H | (rw [hy238]; exact H) | exact H
         have Ny238 := Aside0.mk hy238
         clear hy238
         simp only [Option.some.injEq, Prod.mk.injEq] at H
         obtain ⟨rfl, rfl, rfl, rfl, rfl, rfl, rfl⟩ := H
         obtain ⟨Ao65, co65, eo65⟩ := Kd.R_slice HO_217000.out
         subst eo65
         try go_wp2
         replace HO_217000 := Aside0.mk (Kd.R_drew HO_217000.out)
         replace BK211 := Aside0.mk (blk_drew BK211.out)
         replace BK212 := Aside0.mk (blk_drew BK212.out)
         replace BK216 := Aside0.mk (blk_drew BK216.out)
         replace HB := Aside0.mk (below_drew1 HB.out)
         have p218 : 0 ≤ (x9_2 : Int) := zod
         have q218 : x9_2 < (l2.length : Int) := zod
         obtain ⟨ad218, e218, hx218_0⟩ := Kd.at_int HR2.out x9_2 p218 q218
         have hw218_0 := hx218_0
         cases e218
         replace hx218_0 := (HB.out.cell (World.block_lt_of_cell? w _ hx218_0)).trans hx218_0
         replace p218 := eq_true p218
         replace q218 := eq_true q218
         refine start_ (n := 14) (S := fun w' => w'.cell? ⟨gb211, 0, none⟩ = some (.int .i64 a0_0) ∧ w'.cell? ⟨gb211, 1, none⟩ = some (.int .i64 a0_1) ∧ w'.cell? ⟨gb211, 2, none⟩ = some (.int .i64 a0_2) ∧ w'.cell? ⟨gb216, 0, none⟩ = some (.slice Ao65 x217000_2.length co65) ∧ w'.cell? ⟨gb216, 1, none⟩ = some (.int .i64 x217001_2) ∧ w'.cell? ⟨gb216, 2, none⟩ = some (.int .i64 x217002_2) ∧ w'.cell? ⟨gb216, 3, none⟩ = some (.int .i64 x217003_2) ∧ w'.cell? ⟨gb216, 4, none⟩ = some (.int .i64 x217004_2) ∧ w'.cell? ⟨gb216, 5, none⟩ = some (.int .i64 x217005_2) ∧ w'.cell? (ad218.add (x9_2).toNat) = some (.int .i64 (rd l2 x9_2))) (ds := []) #[zF, zF, zF, zF, zF, zF, zF, zF, zF, zF, zF, zF, zF, zF] (by kernel_rfl) rfl rfl ⟨zc0 BK211 0 rfl, zc0 BK211 1 rfl, zc0 BK211 2 rfl, zc0 BK216 0 rfl, zc0 BK216 1 rfl, zc0 BK216 2 rfl, zc0 BK216 3 rfl, zc0 BK216 4 rfl, zc0 BK216 5 rfl, ((HB.out.cell (World.block_lt_of_cell? w _ hw218_0)).trans hw218_0)⟩ (fun hHeld => ?_); refine with_tabW spec_l4All.tab7 spec_l4All.bits7 (fun HT_ HW_ => ?_)
         generalize wr.drew = w66 at HO_217000 BK211 BK212 BK216 HB hx218_0 hHeld ⊢
         refine pure_ (i := 1) (N := some 31) (v := ?_) (a' := ?_) #[zF, zT, zF, zF, zF, zF, zF, zF, zF, zF, zF, zF, zF, zF] rfl rfl (any_of HT_.out (by kernel_rfl)) (fun _ _ _ h => h) (Or.inl ⟨by rfl, ?_⟩) ?_ ?_
         rotate_left
         ·intro w'
          go_simp
          with_reducible rfl
         rotate_left
         ·simp only [Act.put, zp1, zp2, zp3, i64_w, i32_w]
          rfl
         refine pure_ (i := 3) (N := some 33) (v := ?_) (a' := ?_) #[zF, zT, zF, zT, zF, zF, zF, zF, zF, zF, zF, zF, zF, zF] rfl rfl (any_of HT_.out (by kernel_rfl)) (fun _ _ _ h => h) (Or.inl ⟨by rfl, ?_⟩) ?_ ?_
         rotate_left
         ·intro w'
          go_simp
          with_reducible rfl
         rotate_left
         ·simp only [Act.put, zp1, zp2, zp3, i64_w, i32_w]
          rfl
         refine pure_ (i := 4) (N := some 34) (v := ?_) (a' := ?_) #[zF, zT, zF, zT, zT, zF, zF, zF, zF, zF, zF, zF, zF, zF] rfl rfl (any_of HT_.out (by kernel_rfl)) (fun _ _ _ h => h) (Or.inl ⟨by rfl, ?_⟩) ?_ ?_
         rotate_left
         ·intro w'
          go_simp
          with_reducible rfl
         rotate_left
         ·simp only [Act.put, zp1, zp2, zp3, i64_w, i32_w]
          rfl
         refine pure_ (i := 5) (N := some 35) (v := ?_) (a' := ?_) #[zF, zT, zF, zT, zT, zT, zF, zF, zF, zF, zF, zF, zF, zF] rfl rfl (any_of HT_.out (by kernel_rfl)) (fun _ _ _ h => h) (Or.inl ⟨by rfl, ?_⟩) ?_ ?_
         rotate_left
         ·intro w'
          go_simp
          with_reducible rfl
         rotate_left
         ·simp only [Act.put, zp1, zp2, zp3, i64_w, i32_w]
          rfl
         refine take_ (i := 0) (N := some 30) (v := ?_) (a' := ?_) #[zT, zT, zF, zT, zT, zT, zF, zF, zF, zF, zF, zF, zF, zF] rfl rfl (take_ofW HT_.out HW_.out (by kernel_rfl)) (fun _ _ _ h => h) (Or.inl ⟨by rfl, ?_⟩) hHeld ?_ ?_
         rotate_left
         ·rintro w' ⟨s0, s1, s2, s3, s4, s5, s6, s7, s8, s9⟩
          go_simp
          with_reducible rfl
         rotate_left
         ·simp only [Act.put, zp1, zp2, zp3, i64_w, i32_w]
          rfl
         refine take_ (i := 2) (N := some 32) (v := ?_) (a' := ?_) #[zT, zT, zT, zT, zT, zT, zF, zF, zF, zF, zF, zF, zF, zF] rfl rfl (take_ofW HT_.out HW_.out (by kernel_rfl)) (fun _ _ _ h => h) (Or.inl ⟨by rfl, ?_⟩) hHeld ?_ ?_
         rotate_left
         ·rintro w' ⟨s0, s1, s2, s3, s4, s5, s6, s7, s8, s9⟩
          go_simp
          with_reducible rfl
         rotate_left
         ·simp only [Act.put, zp1, zp2, zp3, i64_w, i32_w]
          rfl
         refine take_ (i := 6) (N := some 36) (v := ?_) (a' := ?_) #[zT, zT, zT, zT, zT, zT, zT, zF, zF, zF, zF, zF, zF, zF] rfl rfl (take_ofW HT_.out HW_.out (by kernel_rfl)) (fun _ _ _ h => h) (Or.inl ⟨by rfl, ?_⟩) hHeld ?_ ?_
         rotate_left
         ·rintro w' ⟨s0, s1, s2, s3, s4, s5, s6, s7, s8, s9⟩
          go_simp
          with_reducible rfl
         rotate_left
         ·simp only [Act.put, zp1, zp2, zp3, i64_w, i32_w]
          rfl
         refine join_ (σ := Value × Nat) 2 #[zT, zT, zT, zT, zT, zT, zT, zT, zT, zT, zT, zT, zF, zF] (fun s_ => [(37, .tuple #[.agg #[s_.1, .int .i64 t222, .int .i64 t223, .int .i64 t224, .int .i64 t225, .int .i64 t226], .bool false]), (10, .pointer (some ⟨s_.2, 0, none⟩)), (29, .tuple #[.agg #[s_.1, .int .i64 t222, .int .i64 t223, .int .i64 t224, .int .i64 t225, .int .i64 t226], .bool false]), (38, .agg #[s_.1, .int .i64 t222, .int .i64 t223, .int .i64 t224, .int .i64 t225, .int .i64 t226]), (39, .bool false)]) (fun s_ w' => (w'.cell? ⟨gb211, 0, none⟩ = some (.int .i64 a0_0) ∧ w'.cell? ⟨gb211, 1, none⟩ = some (.int .i64 a0_1) ∧ w'.cell? ⟨gb211, 2, none⟩ = some (.int .i64 a0_2) ∧ w'.cell? ⟨gb216, 0, none⟩ = some (.slice Ao65 x217000_2.length co65) ∧ w'.cell? ⟨gb216, 1, none⟩ = some (.int .i64 x217001_2) ∧ w'.cell? ⟨gb216, 2, none⟩ = some (.int .i64 x217002_2) ∧ w'.cell? ⟨gb216, 3, none⟩ = some (.int .i64 x217003_2) ∧ w'.cell? ⟨gb216, 4, none⟩ = some (.int .i64 x217004_2) ∧ w'.cell? ⟨gb216, 5, none⟩ = some (.int .i64 x217005_2) ∧ w'.cell? (ad218.add (x9_2).toNat) = some (.int .i64 (rd l2 x9_2))) ∧ (Kd.R (Kd.int .i64) 3 w' w.heap.size (fun _ => True) s_.1 t219) ∧ (w'.heap[gb211]? = some (.cells #[.int .i64 a0_0, .int .i64 a0_1, .int .i64 a0_2] 60 (0, 0))) ∧ (w'.heap[gb212]? = some (.cells #[.slice none 0 0, .int .i64 x213001_2, .int .i64 x213002_2, .int .i64 x213003_2, .int .i64 x213004_2, .int .i64 x213005_2] 115 (0, 0))) ∧ (w'.heap[gb216]? = some (.cells #[.slice Ao65 x217000_2.length co65, .int .i64 x217001_2, .int .i64 x217002_2, .int .i64 x217003_2, .int .i64 x217004_2, .int .i64 x217005_2] 115 (0, 0))) ∧ (w'.heap[s_.2]? = some (.cells #[.slice none 0 0, .int .i64 0, .int .i64 0, .int .i64 0, .int .i64 0, .int .i64 0] 115 (0, 0))) ∧ (w.heap.size ≤ s_.2) ∧ (w.heap.size ≤ s_.2) ∧ (gb211 ≠ s_.2) ∧ (s_.2 ≠ gb211) ∧ (gb212 ≠ s_.2) ∧ (s_.2 ≠ gb212) ∧ (gb216 ≠ s_.2) ∧ (s_.2 ≠ gb216) ∧ (Below w.heap.size w w')) ?_ ?_
         rotate_left
         ·intro hCont
          refine two_ (i := 7) (j := 11) (Ni := some 37) (Nj := some 10) #[zT, zT, zT, zT, zT, zT, zT, zT, zF, zF, zF, zF, zF, zF] #[zT, zT, zT, zT, zT, zT, zT, zF, zF, zF, zF, zT, zF, zF] rfl rfl rfl rfl (two_of HT_.out (by kernel_rfl)) (by decide) (by decide) (fun K hK => ?_) (fun K hK => ?_)
          ·skip
           refine goes_ Try.func119 (by kernel_rfl) rfl #[.agg #[.int .i64 a0_0, .int .i64 a0_1, .int .i64 a0_2], .int .i64 a1, .agg #[.slice Ao65 x217000_2.length co65, .int .i64 x217001_2, .int .i64 x217002_2, .int .i64 x217003_2, .int .i64 x217004_2, .int .i64 x217005_2], .int .i64 (rd l2 x9_2)] (by rfl) rfl rfl (by (try simp only [zq1, zq2, zq3]); first | done | rfl | (simp only [List.length_drop, List.length_take]; rfl)) ?_
           with_reducible refine (spec_l4Do.calls k2 a0_0 a0_1 a0_2 a1 (fun k_ => some k_ = (.slice Ao65 x217000_2.length co65 : Value).ownBlock) (.slice Ao65 x217000_2.length co65) x217000_2 x217001_2 x217002_2 x217003_2 x217004_2 x217005_2 (rd l2 x9_2) t219 t222 t223 t224 t225 t226 false w _ ?side1 ?side2 A32.out).mono ?_
           (case side1 => repeat (first | (with_reducible first | exact HB.out | apply below_alloc | apply pw_below_drewN | apply below_drew1 | refine below_set ?_ GE211.out | refine below_set ?_ GE212.out | refine below_set ?_ GE216.out) | exact HB.out))
           (case side2 => exact Kd.R_tight rfl HO_217000.out)
           rintro e w67 ⟨v220, rfl, ho0, hb, hkp⟩
           refine ⟨_, rfl, ?_⟩
           have n0_ := Aside0.mk (blk_kept (zk0 BK211) hkp (fun hs_ => (fun e_ => (Kd.R_ne HO_217000.out BK211.out (by decide)) e_) hs_))
           have n1_ := Aside0.mk (blk_kept (zk0 BK212) hkp (fun hs_ => (fun e_ => (Kd.R_ne HO_217000.out BK212.out (by decide)) e_) hs_))
           have n2_ := Aside0.mk (blk_kept (zk0 BK216) hkp (fun hs_ => (fun e_ => (Kd.R_ne HO_217000.out BK216.out (by decide)) e_) hs_))
           have n3_ := Aside0.mk (Kd.R_mono (ok' := fun k_ => True) ho0 (fun k_ hk_ => trivial))
           have n4_ := Aside0.mk (hb)
           clear BK211
           clear BK212
           clear BK216
           clear HB
           clear HO_217000
           have BK211 := n0_
           have BK212 := n1_
           have BK216 := n2_
           have HO221 := n3_
           have HB := n4_
           clear n0_ n1_ n2_ n3_ n4_
           (try clear hb)
           (try clear hkp)
           (try clear ho0)
           refine hK.out _ _ ⟨zc0 BK211 0 rfl, zc0 BK211 1 rfl, zc0 BK211 2 rfl, zc0 BK216 0 rfl, zc0 BK216 1 rfl, zc0 BK216 2 rfl, zc0 BK216 3 rfl, zc0 BK216 4 rfl, zc0 BK216 5 rfl, ((HB.out.cell (World.block_lt_of_cell? w _ hw218_0)).trans hw218_0)⟩ (fun hHeld => ?_)
           clear hK K
           refine norm_ (a' := ?_) ?_ ?_
           rotate_left
           ·show Act.put _ (some 37) _ = _
            simp only [Act.put, zp1, zp2, zp3, i64_w, i32_w]
            rfl
           refine pure_ (i := 8) (N := some 29) (v := ?_) (a' := ?_) #[zT, zT, zT, zT, zT, zT, zT, zT, zT, zF, zF, zF, zF, zF] rfl rfl (any_of HT_.out (by kernel_rfl)) (fun _ _ _ h => h) (Or.inl ⟨by rfl, ?_⟩) ?_ ?_
           rotate_left
           ·intro w'
            go_simp
            with_reducible rfl
           rotate_left
           ·simp only [Act.put, zp1, zp2, zp3, i64_w, i32_w]
            rfl
           refine pure_ (i := 9) (N := some 38) (v := ?_) (a' := ?_) #[zT, zT, zT, zT, zT, zT, zT, zT, zT, zT, zF, zF, zF, zF] rfl rfl (any_of HT_.out (by kernel_rfl)) (fun _ _ _ h => h) (Or.inl ⟨by rfl, ?_⟩) ?_ ?_
           rotate_left
           ·intro w'
            go_simp
            with_reducible rfl
           rotate_left
           ·simp only [Act.put, zp1, zp2, zp3, i64_w, i32_w]
            rfl
           refine pure_ (i := 10) (N := some 39) (v := ?_) (a' := ?_) #[zT, zT, zT, zT, zT, zT, zT, zT, zT, zT, zT, zF, zF, zF] rfl rfl (any_of HT_.out (by kernel_rfl)) (fun _ _ _ h => h) (Or.inl ⟨by rfl, ?_⟩) ?_ ?_
           rotate_left
           ·intro w'
            go_simp
            with_reducible rfl
           rotate_left
           ·simp only [Act.put, zp1, zp2, zp3, i64_w, i32_w]
            rfl
           refine one_ (i := 11) (N := some 10) #[zT, zT, zT, zT, zT, zT, zT, zT, zT, zT, zT, zT, zF, zF] rfl rfl (one_of HT_.out (by kernel_rfl)) (by decide) (fun K hK => ?_)
           refine box_step ?hg (N := 10) ?hd (cs := #[.slice none 0 0, .int .i64 0, .int .i64 0, .int .i64 0, .int .i64 0, .int .i64 0]) (t := 115) ?hr ?_; (case hd => rfl); (case hg => rfl); (case hr => first | (go_simp; done) | (go_simp; rfl))
           intro gb228 hg w68 hbox hb
           have BK228 := Aside0.mk (hbox)
           have GW228 := zge HB hg
           have GE228 := zge HB hg
           have NB211_228 := znl BK211 hg
           have NB228_211 := znr BK211 hg
           have NB212_228 := znl BK212 hg
           have NB228_212 := znr BK212 hg
           have NB216_228 := znl BK216 hg
           have NB228_216 := znr BK216 hg
           replace HO221 := zrb HO221 hb
           replace BK211 := zb0 BK211 hb
           replace BK212 := zb0 BK212 hb
           replace BK216 := zb0 BK216 hb
           replace HB := zhs HB hb
           clear hb hbox hg
           refine hK.out _ _ ⟨zc0 BK211 0 rfl, zc0 BK211 1 rfl, zc0 BK211 2 rfl, zc0 BK216 0 rfl, zc0 BK216 1 rfl, zc0 BK216 2 rfl, zc0 BK216 3 rfl, zc0 BK216 4 rfl, zc0 BK216 5 rfl, ((HB.out.cell (World.block_lt_of_cell? w _ hw218_0)).trans hw218_0)⟩ (fun hHeld => ?_)
           clear hK K
           refine norm_ (a' := ?_) ?_ ?_
           rotate_left
           ·show Act.put _ (some 10) _ = _
            simp only [Act.put, zp1, zp2, zp3, i64_w, i32_w]
            rfl
           exact norm_ (by simp only [putAll, Act.put, zp1, zp2, zp3]) (hCont (v220, gb228) _ ⟨hHeld, (zr0 HO221), (zk0 BK211), (zk0 BK212), (zk0 BK216), (zk0 BK228), GW228.out, GE228.out, NB211_228.out, NB228_211.out, NB212_228.out, NB228_212.out, NB216_228.out, NB228_216.out, (zh0 HB)⟩)
          ·skip
           refine box_step ?hg (N := 10) ?hd (cs := #[.slice none 0 0, .int .i64 0, .int .i64 0, .int .i64 0, .int .i64 0, .int .i64 0]) (t := 115) ?hr ?_; (case hd => rfl); (case hg => rfl); (case hr => first | (go_simp; done) | (go_simp; rfl))
           intro gb228 hg w67 hbox hb
           have BK228 := Aside0.mk (hbox)
           have GW228 := zge HB hg
           have GE228 := zge HB hg
           have NB211_228 := znl BK211 hg
           have NB228_211 := znr BK211 hg
           have NB212_228 := znl BK212 hg
           have NB228_212 := znr BK212 hg
           have NB216_228 := znl BK216 hg
           have NB228_216 := znr BK216 hg
           replace HO_217000 := zrb HO_217000 hb
           replace BK211 := zb0 BK211 hb
           replace BK212 := zb0 BK212 hb
           replace BK216 := zb0 BK216 hb
           replace HB := zhs HB hb
           clear hb hbox hg
           refine hK.out _ _ ⟨zc0 BK211 0 rfl, zc0 BK211 1 rfl, zc0 BK211 2 rfl, zc0 BK216 0 rfl, zc0 BK216 1 rfl, zc0 BK216 2 rfl, zc0 BK216 3 rfl, zc0 BK216 4 rfl, zc0 BK216 5 rfl, ((HB.out.cell (World.block_lt_of_cell? w _ hw218_0)).trans hw218_0)⟩ (fun hHeld => ?_)
           clear hK K
           refine norm_ (a' := ?_) ?_ ?_
           rotate_left
           ·show Act.put _ (some 10) _ = _
            simp only [Act.put, zp1, zp2, zp3, i64_w, i32_w]
            rfl
           refine one_ (i := 7) (N := some 37) #[zT, zT, zT, zT, zT, zT, zT, zT, zF, zF, zF, zT, zF, zF] rfl rfl (one_of HT_.out (by kernel_rfl)) (by decide) (fun K hK => ?_)
           refine goes_ Try.func119 (by kernel_rfl) rfl #[.agg #[.int .i64 a0_0, .int .i64 a0_1, .int .i64 a0_2], .int .i64 a1, .agg #[.slice Ao65 x217000_2.length co65, .int .i64 x217001_2, .int .i64 x217002_2, .int .i64 x217003_2, .int .i64 x217004_2, .int .i64 x217005_2], .int .i64 (rd l2 x9_2)] (by rfl) rfl rfl (by (try simp only [zq1, zq2, zq3]); first | done | rfl | (simp only [List.length_drop, List.length_take]; rfl)) ?_
           with_reducible refine (spec_l4Do.calls k2 a0_0 a0_1 a0_2 a1 (fun k_ => some k_ = (.slice Ao65 x217000_2.length co65 : Value).ownBlock) (.slice Ao65 x217000_2.length co65) x217000_2 x217001_2 x217002_2 x217003_2 x217004_2 x217005_2 (rd l2 x9_2) t219 t222 t223 t224 t225 t226 false w _ ?side1 ?side2 A32.out).mono ?_
           (case side1 => repeat (first | (with_reducible first | exact HB.out | apply below_alloc | apply pw_below_drewN | apply below_drew1 | refine below_set ?_ GE211.out | refine below_set ?_ GE212.out | refine below_set ?_ GE216.out | refine below_set ?_ GE228.out) | exact HB.out))
           (case side2 => exact Kd.R_tight rfl HO_217000.out)
           rintro e w68 ⟨v220, rfl, ho0, hb, hkp⟩
           refine ⟨_, rfl, ?_⟩
           have n0_ := Aside0.mk (blk_kept (zk0 BK211) hkp (fun hs_ => (fun e_ => (Kd.R_ne HO_217000.out BK211.out (by decide)) e_) hs_))
           have n1_ := Aside0.mk (blk_kept (zk0 BK212) hkp (fun hs_ => (fun e_ => (Kd.R_ne HO_217000.out BK212.out (by decide)) e_) hs_))
           have n2_ := Aside0.mk (blk_kept (zk0 BK216) hkp (fun hs_ => (fun e_ => (Kd.R_ne HO_217000.out BK216.out (by decide)) e_) hs_))
           have n3_ := Aside0.mk (blk_kept (zk0 BK228) hkp (fun hs_ => (fun e_ => (Kd.R_ne HO_217000.out BK228.out (by decide)) e_) hs_))
           have n4_ := Aside0.mk (Kd.R_mono (ok' := fun k_ => True) ho0 (fun k_ hk_ => trivial))
           have n5_ := Aside0.mk (hb)
           clear BK211
           clear BK212
           clear BK216
           clear BK228
           clear HB
           clear HO_217000
           have BK211 := n0_
           have BK212 := n1_
           have BK216 := n2_
           have BK228 := n3_
           have HO221 := n4_
           have HB := n5_
           clear n0_ n1_ n2_ n3_ n4_ n5_
           (try clear hb)
           (try clear hkp)
           (try clear ho0)
           refine hK.out _ _ ⟨zc0 BK211 0 rfl, zc0 BK211 1 rfl, zc0 BK211 2 rfl, zc0 BK216 0 rfl, zc0 BK216 1 rfl, zc0 BK216 2 rfl, zc0 BK216 3 rfl, zc0 BK216 4 rfl, zc0 BK216 5 rfl, ((HB.out.cell (World.block_lt_of_cell? w _ hw218_0)).trans hw218_0)⟩ (fun hHeld => ?_)
           clear hK K
           refine norm_ (a' := ?_) ?_ ?_
           rotate_left
           ·show Act.put _ (some 37) _ = _
            simp only [Act.put, zp1, zp2, zp3, i64_w, i32_w]
            rfl
           refine pure_ (i := 8) (N := some 29) (v := ?_) (a' := ?_) #[zT, zT, zT, zT, zT, zT, zT, zT, zT, zF, zF, zT, zF, zF] rfl rfl (any_of HT_.out (by kernel_rfl)) (fun _ _ _ h => h) (Or.inl ⟨by rfl, ?_⟩) ?_ ?_
           rotate_left
           ·intro w'
            go_simp
            with_reducible rfl
           rotate_left
           ·simp only [Act.put, zp1, zp2, zp3, i64_w, i32_w]
            rfl
           refine pure_ (i := 9) (N := some 38) (v := ?_) (a' := ?_) #[zT, zT, zT, zT, zT, zT, zT, zT, zT, zT, zF, zT, zF, zF] rfl rfl (any_of HT_.out (by kernel_rfl)) (fun _ _ _ h => h) (Or.inl ⟨by rfl, ?_⟩) ?_ ?_
           rotate_left
           ·intro w'
            go_simp
            with_reducible rfl
           rotate_left
           ·simp only [Act.put, zp1, zp2, zp3, i64_w, i32_w]
            rfl
           refine pure_ (i := 10) (N := some 39) (v := ?_) (a' := ?_) #[zT, zT, zT, zT, zT, zT, zT, zT, zT, zT, zT, zT, zF, zF] rfl rfl (any_of HT_.out (by kernel_rfl)) (fun _ _ _ h => h) (Or.inl ⟨by rfl, ?_⟩) ?_ ?_
           rotate_left
           ·intro w'
            go_simp
            with_reducible rfl
           rotate_left
           ·simp only [Act.put, zp1, zp2, zp3, i64_w, i32_w]
            rfl
           exact norm_ (by simp only [putAll, Act.put, zp1, zp2, zp3]) (hCont (v220, gb228) _ ⟨hHeld, (zr0 HO221), (zk0 BK211), (zk0 BK212), (zk0 BK216), (zk0 BK228), GW228.out, GE228.out, NB211_228.out, NB228_211.out, NB212_228.out, NB228_212.out, NB216_228.out, NB228_216.out, (zh0 HB)⟩)
         rintro ⟨v220, gb228⟩ w69 ⟨hS_, h0_, h1_, h2_, h3_, h4_, h5_, h6_, h7_, h8_, h9_, h10_, h11_, h12_, h13_⟩
         try dsimp only at hS_ h0_ h1_ h2_ h3_ h4_ h5_ h6_ h7_ h8_ h9_ h10_ h11_ h12_ h13_
         have n0_ := Aside0.mk h0_
         have n1_ := Aside0.mk h1_
         have n2_ := Aside0.mk h2_
         have n3_ := Aside0.mk h3_
         have n4_ := Aside0.mk h4_
         have n5_ := Aside0.mk h5_
         have n6_ := Aside0.mk h6_
         have n7_ := Aside0.mk h7_
         have n8_ := Aside0.mk h8_
         have n9_ := Aside0.mk h9_
         have n10_ := Aside0.mk h10_
         have n11_ := Aside0.mk h11_
         have n12_ := Aside0.mk h12_
         have n13_ := Aside0.mk h13_
         clear HO_217000
         clear BK211
         clear BK212
         clear BK216
         clear HB
         clear h0_ h1_ h2_ h3_ h4_ h5_ h6_ h7_ h8_ h9_ h10_ h11_ h12_ h13_
         have HO221 := n0_
         have BK211 := n1_
         have BK212 := n2_
         have BK216 := n3_
         have BK228 := n4_
         have GW228 := n5_
         have GE228 := n6_
         have NB211_228 := n7_
         have NB228_211 := n8_
         have NB212_228 := n9_
         have NB228_212 := n10_
         have NB216_228 := n11_
         have NB228_216 := n12_
         have HB := n13_
         clear n0_ n1_ n2_ n3_ n4_ n5_ n6_ n7_ n8_ n9_ n10_ n11_ n12_ n13_
         have hHeld := hS_
         obtain ⟨Ao70, co70, eo70⟩ := Kd.R_slice HO221.out
         (first | subst eo70 | (injection eo70 with f1_ f2_ f3_; have f4_ := f1_.symm; have f5_ := f3_.symm; clear f1_ f2_ f3_; subst f4_; subst f5_))
         refine norm_ (a' := ?_) ?_ ?_
         rotate_left
         ·simp only [putAll, Act.put, zp1, zp2, zp3]
          rfl
         refine one_ (i := 12) (N := none) #[zT, zT, zT, zT, zT, zT, zT, zT, zT, zT, zT, zT, zT, zF] rfl rfl (one_of HT_.out (by kernel_rfl)) (by decide) (fun K hK => ?_)
         have hs71 : w69.cell? ⟨gb228, 0, none⟩ = some (.slice none 0 0) := zc0 BK228 0 rfl
         have hfs71 := blk_frozen BK228.out 0
         have hns71_0 := NB211_228.out
         have hns71_1 := NB212_228.out
         have hns71_2 := NB216_228.out
         have hms71_0 := NB228_211.out
         have hms71_1 := NB228_212.out
         have hms71_2 := NB228_216.out
         have hs72 : w69.cell? ⟨gb228, 1, none⟩ = some (.int .i64 0) := zc0 BK228 1 rfl
         have hfs72 := blk_frozen BK228.out 1
         have hns72_0 := NB211_228.out
         have hns72_1 := NB212_228.out
         have hns72_2 := NB216_228.out
         have hms72_0 := NB228_211.out
         have hms72_1 := NB228_212.out
         have hms72_2 := NB228_216.out
         have hs73 : w69.cell? ⟨gb228, 2, none⟩ = some (.int .i64 0) := zc0 BK228 2 rfl
         have hfs73 := blk_frozen BK228.out 2
         have hns73_0 := NB211_228.out
         have hns73_1 := NB212_228.out
         have hns73_2 := NB216_228.out
         have hms73_0 := NB228_211.out
         have hms73_1 := NB228_212.out
         have hms73_2 := NB228_216.out
         have hs74 : w69.cell? ⟨gb228, 3, none⟩ = some (.int .i64 0) := zc0 BK228 3 rfl
         have hfs74 := blk_frozen BK228.out 3
         have hns74_0 := NB211_228.out
         have hns74_1 := NB212_228.out
         have hns74_2 := NB216_228.out
         have hms74_0 := NB228_211.out
         have hms74_1 := NB228_212.out
         have hms74_2 := NB228_216.out
         have hs75 : w69.cell? ⟨gb228, 4, none⟩ = some (.int .i64 0) := zc0 BK228 4 rfl
         have hfs75 := blk_frozen BK228.out 4
         have hns75_0 := NB211_228.out
         have hns75_1 := NB212_228.out
         have hns75_2 := NB216_228.out
         have hms75_0 := NB228_211.out
         have hms75_1 := NB228_212.out
         have hms75_2 := NB228_216.out
         have hs76 : w69.cell? ⟨gb228, 5, none⟩ = some (.int .i64 0) := zc0 BK228 5 rfl
         have hfs76 := blk_frozen BK228.out 5
         have hns76_0 := NB211_228.out
         have hns76_1 := NB212_228.out
         have hns76_2 := NB216_228.out
         have hms76_0 := NB228_211.out
         have hms76_1 := NB228_212.out
         have hms76_2 := NB228_216.out
         refine skip_ (w1 := ?_) (by rfl) rfl ?_ ?_
         rotate_left
         ·go_simp
          rfl
         refine hK.out _ _ ⟨((zfar NB211_228).trans (((zfar NB211_228).trans (((zfar NB211_228).trans (((zfar NB211_228).trans (((zfar NB211_228).trans (((zfar NB211_228).trans (hHeld.1)))))))))))), ((zfar NB211_228).trans (((zfar NB211_228).trans (((zfar NB211_228).trans (((zfar NB211_228).trans (((zfar NB211_228).trans (((zfar NB211_228).trans (hHeld.2.1)))))))))))), ((zfar NB211_228).trans (((zfar NB211_228).trans (((zfar NB211_228).trans (((zfar NB211_228).trans (((zfar NB211_228).trans (((zfar NB211_228).trans (hHeld.2.2.1)))))))))))), ((zfar NB216_228).trans (((zfar NB216_228).trans (((zfar NB216_228).trans (((zfar NB216_228).trans (((zfar NB216_228).trans (((zfar NB216_228).trans (hHeld.2.2.2.1)))))))))))), ((zfar NB216_228).trans (((zfar NB216_228).trans (((zfar NB216_228).trans (((zfar NB216_228).trans (((zfar NB216_228).trans (((zfar NB216_228).trans (hHeld.2.2.2.2.1)))))))))))), ((zfar NB216_228).trans (((zfar NB216_228).trans (((zfar NB216_228).trans (((zfar NB216_228).trans (((zfar NB216_228).trans (((zfar NB216_228).trans (hHeld.2.2.2.2.2.1)))))))))))), ((zfar NB216_228).trans (((zfar NB216_228).trans (((zfar NB216_228).trans (((zfar NB216_228).trans (((zfar NB216_228).trans (((zfar NB216_228).trans (hHeld.2.2.2.2.2.2.1)))))))))))), ((zfar NB216_228).trans (((zfar NB216_228).trans (((zfar NB216_228).trans (((zfar NB216_228).trans (((zfar NB216_228).trans (((zfar NB216_228).trans (hHeld.2.2.2.2.2.2.2.1)))))))))))), ((zfar NB216_228).trans (((zfar NB216_228).trans (((zfar NB216_228).trans (((zfar NB216_228).trans (((zfar NB216_228).trans (((zfar NB216_228).trans (hHeld.2.2.2.2.2.2.2.2.1)))))))))))), ((cell_far (p := ⟨gb228, _, none⟩) (znb hw218_0 GW228.out (by first | rfl | simp only [add_block])) _).trans (((cell_far (p := ⟨gb228, _, none⟩) (znb hw218_0 GW228.out (by first | rfl | simp only [add_block])) _).trans (((cell_far (p := ⟨gb228, _, none⟩) (znb hw218_0 GW228.out (by first | rfl | simp only [add_block])) _).trans (((cell_far (p := ⟨gb228, _, none⟩) (znb hw218_0 GW228.out (by first | rfl | simp only [add_block])) _).trans (((cell_far (p := ⟨gb228, _, none⟩) (znb hw218_0 GW228.out (by first | rfl | simp only [add_block])) _).trans (((cell_far (p := ⟨gb228, _, none⟩) (znb hw218_0 GW228.out (by first | rfl | simp only [add_block])) _).trans (hHeld.2.2.2.2.2.2.2.2.2))))))))))))⟩ (fun hHeld => ?_)
         clear hK K
         refine pure_ (i := 13) (N := some 11) (v := ?_) (a' := ?_) #[zT, zT, zT, zT, zT, zT, zT, zT, zT, zT, zT, zT, zT, zT] rfl rfl (any_of HT_.out (by kernel_rfl)) (fun _ _ _ h => h) (Or.inl ⟨by rfl, ?_⟩) ?_ ?_
         rotate_left
         ·intro w'
          go_simp
          with_reducible rfl
         rotate_left
         ·simp only [Act.put, zp1, zp2, zp3, i64_w, i32_w]
          rfl
         refine done_ (done_of HT_.out (by kernel_rfl)) ?_
         try go_wp2_with (first | ((with_reducible refine gate_dst (N := 42) rfl ?_); (try (refine gate_guard (by rfl) ?_; dsimp only)); refine Kd.R_lit (Kd.int .i64) _ 3 ?hg (N := 42) ?hd (xs := ([] : List Int)) (inner := []) (ok := fun _ => True) (okp := fun _ => True) ?hr ?hp (fun _ hk => hk) trivial (Below.refl _ _) (Nat.le_refl _) (by simp) ?_; (case hd => rfl); (case hg => rfl); (case hr => first | (go_simp; done) | (go_simp; rfl)); (case hp => exact (Reps.none _ _)); intro v239 w77 ho78 hb hg_ hnew_; clear hg_ hnew_; (first | rw [← Ny238.out] at ho78 | (simp only [Int.reduceToNat] at ho78; rw [← Ny238.out] at ho78)); have HO240 := Aside0.mk (Kd.R_lower (Kd.R_new' ho78 (Kd.R_lt (by (with_reducible repeat (first | apply Kd.R_alloc | apply Kd.R_drewN | apply Kd.R_drew)); exact (Kd.R_mono (Kd.R_far (p := ⟨gb228, 5, none⟩) (Kd.R_far (p := ⟨gb228, 4, none⟩) (Kd.R_far (p := ⟨gb228, 3, none⟩) (Kd.R_far (p := ⟨gb228, 2, none⟩) (Kd.R_far (p := ⟨gb228, 1, none⟩) (Kd.R_far (p := ⟨gb228, 0, none⟩) (Kd.R_types HO221.out BK228.out (by decide)) (fun _ hk => hk.2) (.slice Ao70 t219.length co70)) (fun _ hk => hk.2) (.int .i64 t222)) (fun _ hk => hk.2) (.int .i64 t223)) (fun _ hk => hk.2) (.int .i64 t224)) (fun _ hk => hk.2) (.int .i64 t225)) (fun _ hk => hk.2) (.int .i64 t226)) (fun _ h_ => h_.1))))) (below_size (by repeat (first | exact zh0 HB | refine below_set ?_ GE211.out | refine below_set ?_ GE212.out | refine below_set ?_ GE216.out | refine below_set ?_ GE228.out)))); replace HO221 := Aside0.mk (Kd.R_elder' (by (with_reducible repeat (first | apply Kd.R_alloc | apply Kd.R_drewN | apply Kd.R_drew)); exact (Kd.R_mono (Kd.R_far (p := ⟨gb228, 5, none⟩) (Kd.R_far (p := ⟨gb228, 4, none⟩) (Kd.R_far (p := ⟨gb228, 3, none⟩) (Kd.R_far (p := ⟨gb228, 2, none⟩) (Kd.R_far (p := ⟨gb228, 1, none⟩) (Kd.R_far (p := ⟨gb228, 0, none⟩) (Kd.R_types HO221.out BK228.out (by decide)) (fun _ hk => hk.2) (.slice Ao70 t219.length co70)) (fun _ hk => hk.2) (.int .i64 t222)) (fun _ hk => hk.2) (.int .i64 t223)) (fun _ hk => hk.2) (.int .i64 t224)) (fun _ hk => hk.2) (.int .i64 t225)) (fun _ hk => hk.2) (.int .i64 t226)) (fun _ h_ => h_.1))) (Kd.R_base ho78) hb); replace BK211 := Aside0.mk (blk_below (g := gb211) (o := .cells #[.int .i64 a0_0, .int .i64 a0_1, .int .i64 a0_2] 60 (0, 0)) (by (with_reducible repeat (first | refine blk_drewN ?_ _ | refine blk_drew ?_ | refine blk_alloc ?_ _)); refine blk_far ?_ NB211_228.out _; refine blk_far ?_ NB211_228.out _; refine blk_far ?_ NB211_228.out _; refine blk_far ?_ NB211_228.out _; refine blk_far ?_ NB211_228.out _; refine blk_far ?_ NB211_228.out _; (with_reducible repeat (first | refine blk_drewN ?_ _ | refine blk_drew ?_ | refine blk_alloc ?_ _)); exact BK211.out) hb); replace BK212 := Aside0.mk (blk_below (g := gb212) (o := .cells #[.slice none 0 0, .int .i64 x213001_2, .int .i64 x213002_2, .int .i64 x213003_2, .int .i64 x213004_2, .int .i64 x213005_2] 115 (0, 0)) (by (with_reducible repeat (first | refine blk_drewN ?_ _ | refine blk_drew ?_ | refine blk_alloc ?_ _)); refine blk_far ?_ NB212_228.out _; refine blk_far ?_ NB212_228.out _; refine blk_far ?_ NB212_228.out _; refine blk_far ?_ NB212_228.out _; refine blk_far ?_ NB212_228.out _; refine blk_far ?_ NB212_228.out _; (with_reducible repeat (first | refine blk_drewN ?_ _ | refine blk_drew ?_ | refine blk_alloc ?_ _)); exact BK212.out) hb); replace BK216 := Aside0.mk (blk_below (g := gb216) (o := .cells #[.slice Ao65 x217000_2.length co65, .int .i64 x217001_2, .int .i64 x217002_2, .int .i64 x217003_2, .int .i64 x217004_2, .int .i64 x217005_2] 115 (0, 0)) (by (with_reducible repeat (first | refine blk_drewN ?_ _ | refine blk_drew ?_ | refine blk_alloc ?_ _)); refine blk_far ?_ NB216_228.out _; refine blk_far ?_ NB216_228.out _; refine blk_far ?_ NB216_228.out _; refine blk_far ?_ NB216_228.out _; refine blk_far ?_ NB216_228.out _; refine blk_far ?_ NB216_228.out _; (with_reducible repeat (first | refine blk_drewN ?_ _ | refine blk_drew ?_ | refine blk_alloc ?_ _)); exact BK216.out) hb); replace BK228 := Aside0.mk (blk_below (g := gb228) (o := .cells #[.slice Ao70 t219.length co70, .int .i64 t222, .int .i64 t223, .int .i64 t224, .int .i64 t225, .int .i64 t226] 115 (0, 0)) (by (with_reducible repeat (first | refine blk_drewN ?_ _ | refine blk_drew ?_ | refine blk_alloc ?_ _)); refine blk_put (cs := #[.slice Ao70 t219.length co70, .int .i64 t222, .int .i64 t223, .int .i64 t224, .int .i64 t225, .int .i64 0]) ?_ 5 _ rfl; refine blk_put (cs := #[.slice Ao70 t219.length co70, .int .i64 t222, .int .i64 t223, .int .i64 t224, .int .i64 0, .int .i64 0]) ?_ 4 _ rfl; refine blk_put (cs := #[.slice Ao70 t219.length co70, .int .i64 t222, .int .i64 t223, .int .i64 0, .int .i64 0, .int .i64 0]) ?_ 3 _ rfl; refine blk_put (cs := #[.slice Ao70 t219.length co70, .int .i64 t222, .int .i64 0, .int .i64 0, .int .i64 0, .int .i64 0]) ?_ 2 _ rfl; refine blk_put (cs := #[.slice Ao70 t219.length co70, .int .i64 0, .int .i64 0, .int .i64 0, .int .i64 0, .int .i64 0]) ?_ 1 _ rfl; refine blk_put (cs := #[.slice none 0 0, .int .i64 0, .int .i64 0, .int .i64 0, .int .i64 0, .int .i64 0]) ?_ 0 _ rfl; (with_reducible repeat (first | refine blk_drewN ?_ _ | refine blk_drew ?_ | refine blk_alloc ?_ _)); exact BK228.out) hb); replace HB := Aside0.mk (below_step (by repeat (first | exact zh0 HB | refine below_set ?_ GE211.out | refine below_set ?_ GE212.out | refine below_set ?_ GE216.out | refine below_set ?_ GE228.out)) hb); clear hb ho78; obtain ⟨Ao79, co79, eo79⟩ := Kd.R_slice HO240.out; subst eo79; have hnb80 := NB212_211.out; have hnc80 := NB211_212.out; have hnb81 := NB212_216.out; have hnc81 := NB216_212.out; have hnb82 := NB212_228.out; have hnc82 := NB228_212.out; have hcz83_0 := zc0 BK212 0 rfl; have hcz83_1 := zc0 BK212 1 rfl; have hcz83_2 := zc0 BK212 2 rfl; have hcz83_3 := zc0 BK212 3 rfl; have hcz83_4 := zc0 BK212 4 rfl; have hcz83_5 := zc0 BK212 5 rfl; have hfz83_0 := blk_frozen BK212.out 0; have hfz83_1 := blk_frozen BK212.out 1; have hfz83_2 := blk_frozen BK212.out 2; have hfz83_3 := blk_frozen BK212.out 3; have hfz83_4 := blk_frozen BK212.out 4; have hfz83_5 := blk_frozen BK212.out 5))
         refine bodyPost_ret (results_ct rfl _ _ gb212 115 #[.slice Ao79 y238.length co79, .int .i64 0, .int .i64 0, .int .i64 0, .int .i64 0, .int .i64 0] (0, 0) _ rfl (by (with_reducible repeat (first | refine blk_drewN ?_ _ | refine blk_drew ?_ | refine blk_alloc ?_ _)); refine blk_put (cs := #[.slice Ao79 y238.length co79, .int .i64 0, .int .i64 0, .int .i64 0, .int .i64 0, .int .i64 x213005_2]) ?_ 5 _ rfl; refine blk_put (cs := #[.slice Ao79 y238.length co79, .int .i64 0, .int .i64 0, .int .i64 0, .int .i64 x213004_2, .int .i64 x213005_2]) ?_ 4 _ rfl; refine blk_put (cs := #[.slice Ao79 y238.length co79, .int .i64 0, .int .i64 0, .int .i64 x213003_2, .int .i64 x213004_2, .int .i64 x213005_2]) ?_ 3 _ rfl; refine blk_put (cs := #[.slice Ao79 y238.length co79, .int .i64 0, .int .i64 x213002_2, .int .i64 x213003_2, .int .i64 x213004_2, .int .i64 x213005_2]) ?_ 2 _ rfl; refine blk_put (cs := #[.slice Ao79 y238.length co79, .int .i64 x213001_2, .int .i64 x213002_2, .int .i64 x213003_2, .int .i64 x213004_2, .int .i64 x213005_2]) ?_ 1 _ rfl; refine blk_put (cs := #[.slice none 0 0, .int .i64 x213001_2, .int .i64 x213002_2, .int .i64 x213003_2, .int .i64 x213004_2, .int .i64 x213005_2]) ?_ 0 _ rfl; (with_reducible repeat (first | refine blk_drewN ?_ _ | refine blk_drew ?_ | refine blk_alloc ?_ _)); exact BK212.out) Try.underlying115 rfl (by kernel_rfl)) rfl ?_
         exact ⟨_, by first | rfl | (simp <;> rfl) | (simp [*] <;> rfl), by (with_reducible repeat (first | apply Kd.R_alloc | apply Kd.R_drewN | apply Kd.R_drew)); exact Kd.R_mono (Kd.R_far (p := ⟨gb212, 5, none⟩) (Kd.R_far (p := ⟨gb212, 4, none⟩) (Kd.R_far (p := ⟨gb212, 3, none⟩) (Kd.R_far (p := ⟨gb212, 2, none⟩) (Kd.R_far (p := ⟨gb212, 1, none⟩) (Kd.R_far (p := ⟨gb212, 0, none⟩) (Kd.R_types HO240.out BK212.out (by decide)) (fun _ hk => hk.2) (.slice Ao79 y238.length co79)) (fun _ hk => hk.2) (.int .i64 0)) (fun _ hk => hk.2) (.int .i64 0)) (fun _ hk => hk.2) (.int .i64 0)) (fun _ hk => hk.2) (.int .i64 0)) (fun _ hk => hk.2) (.int .i64 0)) (fun _ hk => trivial), by repeat (first | exact zh0 HB | refine below_set ?_ GE211.out | refine below_set ?_ GE212.out | refine below_set ?_ GE216.out | refine below_set ?_ GE228.out)⟩
       ·rw [if_neg c31] at H
        exact absurd H (by simp)
      ·rw [if_neg c30] at H
       have c30b0 : decide (x9_2 < (l2.length : Int)) = false := decide_eq_false c30
       clear c30
       simp only [Option.some.injEq, Prod.mk.injEq] at H
       obtain ⟨rfl, rfl, rfl, rfl, rfl, rfl, rfl⟩ := H
       have hnb84 := NB216_211.out
       have hnc84 := NB211_216.out
       have hnb85 := NB216_212.out
       have hnc85 := NB212_216.out
       have hcz86_0 := zc0 BK216 0 rfl
       have hcz86_1 := zc0 BK216 1 rfl
       have hcz86_2 := zc0 BK216 2 rfl
       have hcz86_3 := zc0 BK216 3 rfl
       have hcz86_4 := zc0 BK216 4 rfl
       have hcz86_5 := zc0 BK216 5 rfl
       have hfz86_0 := blk_frozen BK216.out 0
       have hfz86_1 := blk_frozen BK216.out 1
       have hfz86_2 := blk_frozen BK216.out 2
       have hfz86_3 := blk_frozen BK216.out 3
       have hfz86_4 := blk_frozen BK216.out 4
       have hfz86_5 := blk_frozen BK216.out 5
       obtain ⟨Ao87, co87, eo87⟩ := Kd.R_slice HO_217000.out
       subst eo87
       have hnb88 := NB212_211.out
       have hnc88 := NB211_212.out
       have hcz89_0 := zc0 BK212 0 rfl
       have hcz89_1 := zc0 BK212 1 rfl
       have hcz89_2 := zc0 BK212 2 rfl
       have hcz89_3 := zc0 BK212 3 rfl
       have hcz89_4 := zc0 BK212 4 rfl
       have hcz89_5 := zc0 BK212 5 rfl
       have hfz89_0 := blk_frozen BK212.out 0
       have hfz89_1 := blk_frozen BK212.out 1
       have hfz89_2 := blk_frozen BK212.out 2
       have hfz89_3 := blk_frozen BK212.out 3
       have hfz89_4 := blk_frozen BK212.out 4
       have hfz89_5 := blk_frozen BK212.out 5
       go_wp2
       refine bodyPost_ret (results_ct rfl _ _ gb212 115 #[.slice Ao87 x217000_2.length co87, .int .i64 x217001_2, .int .i64 x217002_2, .int .i64 x217003_2, .int .i64 x217004_2, .int .i64 x217005_2] (0, 0) _ rfl (by (with_reducible repeat (first | refine blk_drewN ?_ _ | refine blk_drew ?_ | refine blk_alloc ?_ _)); refine blk_put (cs := #[.slice Ao87 x217000_2.length co87, .int .i64 x217001_2, .int .i64 x217002_2, .int .i64 x217003_2, .int .i64 x217004_2, .int .i64 x213005_2]) ?_ 5 _ rfl; refine blk_put (cs := #[.slice Ao87 x217000_2.length co87, .int .i64 x217001_2, .int .i64 x217002_2, .int .i64 x217003_2, .int .i64 x213004_2, .int .i64 x213005_2]) ?_ 4 _ rfl; refine blk_put (cs := #[.slice Ao87 x217000_2.length co87, .int .i64 x217001_2, .int .i64 x217002_2, .int .i64 x213003_2, .int .i64 x213004_2, .int .i64 x213005_2]) ?_ 3 _ rfl; refine blk_put (cs := #[.slice Ao87 x217000_2.length co87, .int .i64 x217001_2, .int .i64 x213002_2, .int .i64 x213003_2, .int .i64 x213004_2, .int .i64 x213005_2]) ?_ 2 _ rfl; refine blk_put (cs := #[.slice Ao87 x217000_2.length co87, .int .i64 x213001_2, .int .i64 x213002_2, .int .i64 x213003_2, .int .i64 x213004_2, .int .i64 x213005_2]) ?_ 1 _ rfl; refine blk_put (cs := #[.slice none 0 0, .int .i64 x213001_2, .int .i64 x213002_2, .int .i64 x213003_2, .int .i64 x213004_2, .int .i64 x213005_2]) ?_ 0 _ rfl; (with_reducible repeat (first | refine blk_drewN ?_ _ | refine blk_drew ?_ | refine blk_alloc ?_ _)); exact BK212.out) Try.underlying115 rfl (by kernel_rfl)) rfl ?_
       exact ⟨_, by first | rfl | (simp <;> rfl) | (simp [*] <;> rfl), by (with_reducible repeat (first | apply Kd.R_alloc | apply Kd.R_drewN | apply Kd.R_drew)); exact Kd.R_mono (Kd.R_far (p := ⟨gb212, 5, none⟩) (Kd.R_far (p := ⟨gb212, 4, none⟩) (Kd.R_far (p := ⟨gb212, 3, none⟩) (Kd.R_far (p := ⟨gb212, 2, none⟩) (Kd.R_far (p := ⟨gb212, 1, none⟩) (Kd.R_far (p := ⟨gb212, 0, none⟩) (Kd.R_types HO_217000.out BK212.out (by decide)) (fun _ hk => hk.2) (.slice Ao87 x217000_2.length co87)) (fun _ hk => hk.2) (.int .i64 x217001_2)) (fun _ hk => hk.2) (.int .i64 x217002_2)) (fun _ hk => hk.2) (.int .i64 x217003_2)) (fun _ hk => hk.2) (.int .i64 x217004_2)) (fun _ hk => hk.2) (.int .i64 x217005_2)) (fun _ hk => trivial), by repeat (first | exact zh0 HB | refine below_set ?_ GE211.out | refine below_set ?_ GE212.out | refine below_set ?_ GE216.out)⟩

open Go.Proofs.Ytkifenbcepicjab.Cp
/-! ### spec_CapsOf: function 28 -/
def spec_CapsOf.f (k : Nat) (a0_0 : Int) (a0_1 : Int) (a0_2 : Int) (l1 : List Int) : Option (List Int × Bool) := (spec_l4All.f k a0_0 a0_1 a0_2 0 l1).bind fun bt242 => (some (bt242.1, bt242.2.2.2.2.2.2))
theorem spec_CapsOf.mono : ∀ a0 a1 a2 a3 k, LeO (spec_CapsOf.f k a0 a1 a2 a3) (spec_CapsOf.f (k + 1) a0 a1 a2 a3) := by
 intro a0 a1 a2 a3 k
 unfold spec_CapsOf.f
 repeat' first
   | (with_reducible exact spec_l4All.mono _ _ _ _ _ _)
   | (with_reducible exact LeO.refl _)
   | (with_reducible exact LeO.none _)
   | (with_reducible refine LeO.ite ?_ ?_)
   | (with_reducible refine LeO.bind ?_ (fun _ => ?_))
   | exact spec_l4All.mono _ _ _ _ _ _
   | exact LeO.none _
   | refine LeO.ite ?_ ?_
   | refine LeO.bind ?_ (fun _ => ?_)
set_option maxHeartbeats 8000000 in
set_option maxRecDepth 100000 in
theorem spec_CapsOf.calls (k : Nat) (a0_0 : Int) (a0_1 : Int) (a0_2 : Int) (A1 : Option Addr) (c1 : Nat) (l1 : List Int) (r1 : List Int) (r2 : Bool) (w : World) (hr1 : Kd.C (Kd.int .i64) w A1 l1.length l1) (hc1 : l1.length ≤ c1) (h : spec_CapsOf.f k a0_0 a0_1 a0_2 l1 = some (r1, r2)) :
  Calls Try.prog 28 #[.agg #[.int .i64 a0_0, .int .i64 a0_1, .int .i64 a0_2], .slice A1 l1.length c1] w fun e w' => ∃ v0_ : Value, e = .returned (.tuple #[v0_, .bool r2]) ∧ Kd.R (Kd.int .i64) 3 w' w.heap.size (fun _ => True) v0_ r1 ∧ Below w.heap.size w w' := by
 have hu60 := Try.underlying60
 have hu115 := Try.underlying115
 have HR1 := Aside0.mk hr1
 have HC1 := Aside0.mk hc1
 clear hr1 hc1
 have HB := Aside0.mk (Below.refl w.heap.size w)
 have H : ((spec_l4All.f k a0_0 a0_1 a0_2 0 l1).bind fun bt242 => (some (bt242.1, bt242.2.2.2.2.2.2))) = some (r1, r2) := h
 clear h
 replace H := Option.bind_eq_some_iff.mp H
 obtain ⟨⟨t242, t245, t246, t247, t248, t249, t250⟩, A30, H⟩ := H
 replace H : (some (t242, t250)) = some (r1, r2) := H
 have A3 := Aside0.mk A30
 clear A30
 simp only [Option.some.injEq, Prod.mk.injEq] at H
 obtain ⟨rfl, rfl⟩ := H
 go_enter Try.func28, Try.ntmps28
 go_wp2_with (first | ((with_reducible refine gate_dst (N := 2) rfl ?_); refine box_event ?hg (N := 2) ?hd (cs := #[.int .i64 a0_0, .int .i64 a0_1, .int .i64 a0_2]) (t := 60) ?hr ?_; (case hd => rfl); (case hg => rfl); (case hr => first | (go_simp; done) | (go_simp; rfl)); intro gb241 hg w4 hbox hb; have BK241 := Aside0.mk (hbox); have GW241 := zge HB hg; have GE241 := zge HB hg; replace HB := zhs HB hb; clear hb hbox hg; have hcz5_0 := zc0 BK241 0 rfl; have hcz5_1 := zc0 BK241 1 rfl; have hcz5_2 := zc0 BK241 2 rfl; have hfz5_0 := blk_frozen BK241.out 0; have hfz5_1 := blk_frozen BK241.out 1; have hfz5_2 := blk_frozen BK241.out 2) | ((with_reducible refine gate_callee (f := 78) rfl ?_); refine goesL_ (some 11) rfl rfl Try.func78 (by kernel_rfl) rfl #[.agg #[.int .i64 a0_0, .int .i64 a0_1, .int .i64 a0_2], .int .i64 0, .slice A1 l1.length c1] rfl (by (try simp only [zq1, zq2, zq3]); first | done | rfl | (simp only [List.length_drop, List.length_take]; rfl)) ?_; (with_reducible refine (spec_l4All.calls k a0_0 a0_1 a0_2 0 _ _ l1 t242 t245 t246 t247 t248 t249 t250 _ ?side1 ?side2 A3.out).mono ?_); (case side1 => exact Kd.C_below HR1.out (zh0 HB)); (case side2 => exact HC1.out); rintro e w6 ⟨v243, rfl, ho0, hb⟩; refine ⟨_, rfl, ?_⟩; have HO244 := Aside0.mk (Kd.R_lower ho0 (below_size (zh0 HB))); replace BK241 := zb0 BK241 hb; replace HB := zhs HB hb; (try clear hb); (try clear ho0)) | ((with_reducible refine gate_dst (N := 6) rfl ?_); refine box_event ?hg (N := 6) ?hd (cs := #[.slice none 0 0, .int .i64 0, .int .i64 0, .int .i64 0, .int .i64 0, .int .i64 0]) (t := 115) ?hr ?_; (case hd => rfl); (case hg => rfl); (case hr => first | (go_simp; done) | (go_simp; rfl)); intro gb251 hg w7 hbox hb; have BK251 := Aside0.mk (hbox); have GW251 := Aside0.mk ((by rw [hg]; exact (below_size (by repeat (first | exact zh0 HB | refine below_set ?_ GE241.out))) : w.heap.size ≤ gb251)); have GE251 := Aside0.mk ((by rw [hg]; exact (below_size (by repeat (first | exact zh0 HB | refine below_set ?_ GE241.out))) : w.heap.size ≤ gb251)); have NB241_251 := znl BK241 hg; have NB251_241 := znr BK241 hg; replace HO244 := zrb HO244 hb; replace BK241 := zb0 BK241 hb; replace HB := Aside0.mk (below_step (by repeat (first | exact zh0 HB | refine below_set ?_ GE241.out)) hb); clear hb hbox hg; obtain ⟨Ao8, co8, eo8⟩ := Kd.R_slice HO244.out; subst eo8; have hnb9 := NB251_241.out; have hnc9 := NB241_251.out; have hcz10_0 := zc0 BK251 0 rfl; have hcz10_1 := zc0 BK251 1 rfl; have hcz10_2 := zc0 BK251 2 rfl; have hcz10_3 := zc0 BK251 3 rfl; have hcz10_4 := zc0 BK251 4 rfl; have hcz10_5 := zc0 BK251 5 rfl; have hfz10_0 := blk_frozen BK251.out 0; have hfz10_1 := blk_frozen BK251.out 1; have hfz10_2 := blk_frozen BK251.out 2; have hfz10_3 := blk_frozen BK251.out 3; have hfz10_4 := blk_frozen BK251.out 4; have hfz10_5 := blk_frozen BK251.out 5))
 go_ret2
 exact ⟨_, by first | rfl | (simp <;> rfl) | (simp [*] <;> rfl), by (with_reducible repeat (first | apply Kd.R_alloc | apply Kd.R_drewN | apply Kd.R_drew)); exact Kd.R_mono (Kd.R_far (p := ⟨gb251, 5, none⟩) (Kd.R_far (p := ⟨gb251, 4, none⟩) (Kd.R_far (p := ⟨gb251, 3, none⟩) (Kd.R_far (p := ⟨gb251, 2, none⟩) (Kd.R_far (p := ⟨gb251, 1, none⟩) (Kd.R_far (p := ⟨gb251, 0, none⟩) (Kd.R_types HO244.out BK251.out (by decide)) (fun _ hk => hk.2) (.slice Ao8 t242.length co8)) (fun _ hk => hk.2) (.int .i64 t245)) (fun _ hk => hk.2) (.int .i64 t246)) (fun _ hk => hk.2) (.int .i64 t247)) (fun _ hk => hk.2) (.int .i64 t248)) (fun _ hk => hk.2) (.int .i64 t249)) (fun _ hk => trivial), by repeat (first | exact zh0 HB | refine below_set ?_ GE241.out | refine below_set ?_ GE251.out)⟩

end Go.Proofs.Ytkifenbcepicjab.PFnGrowth
