/- What is proved here: each Go function that is named below answers, and leaves memory, as the theorem of its name says; no condition beyond those that each theorem states. Laid by this session's own program (wip/driver.py) over the kit's print. -/
import Derived.Test.YtkifenbcepicjaaPFnKeysx0
import Derived.Test.YtkifenbcepicjaaPFnKeysx1
namespace Go.Proofs.Ytkifenbcepicjaa.PFnKeys
open Go.RowKit Go.Proofs.YtkifenbcepicjaaW.PrintWords Go.Proofs.YtkifenbcepicjaaW.PrintLast Go.Proofs.YtkifenbcepicjaaW.PrintMore
attribute [local go_sem] max2_int min2_int max_two min_two max_three min_three max_four min_four   -- for this text's walks alone
set_option linter.unusedVariables false
set_option linter.unusedSimpArgs false

open Go.Proofs.Ytkifenbcepicjaa.Cp
/-! ### spec_l1Cur_memory: function 52 -/
mutual
def spec_l1Cur_memory.l0 : Nat → Int → List Int → Int → Int → List (List Int) → Option ((List (List Int)) × Int × Int)
 | 0, _, _, _, _, _ => none
 | k + 1, x4, x1000, x1001, x1002, x132000 => if x4 > 0 then ((spec_l1Cur_among.f x1000 x1001 x1002 (([8, 12, 4, 16, 1, 2, 20, 64] : List Int))).bind fun bt141 => ((spec_l1Cur_bytesOf.f k x1000 bt141.2.1 bt141.2.2 bt141.1).bind fun bt144 => (if x132000.length < 5864062014805 then (spec_l1Cur_memory.l0 k (wrap64 (x4 - 1)) x1000 bt144.2.1 bt144.2.2 (x132000 ++ [bt144.1])) else (none)))) else ((spec_l1Cur_pick.f x1000 x1001 x1002 50).bind fun bt152 => (if bt152.1 = 0 then (if x132000.length < 5864062014805 then (some ((x132000 ++ [(([] : List Int))]), bt152.2.1, bt152.2.2)) else (none)) else (if bt152.1 = 1 then ((spec_l1Cur_bytesOf.f k x1000 bt152.2.1 bt152.2.2 65).bind fun bt161 => (if x132000.length < 5864062014805 then (some ((x132000 ++ [bt161.1]), bt161.2.1, bt161.2.2)) else (none))) else (if bt152.1 = 2 then (spec_l1Cur_memory.l1 k x1000 bt152.2.1 bt152.2.2 x132000) else (some (x132000, bt152.2.1, bt152.2.2))))))
def spec_l1Cur_memory.l1 : Nat → List Int → Int → Int → List (List Int) → Option ((List (List Int)) × Int × Int)
 | 0, _, _, _, _ => none
 | k + 1, x1000, x1001, x1002, x132000 => if (x132000.length : Int) < 17 then (if x132000.length < 5864062014805 then (spec_l1Cur_memory.l1 k x1000 x1001 x1002 (x132000 ++ [(([1] : List Int))])) else (none)) else (some (x132000, x1001, x1002))
end
def spec_l1Cur_memory.f (k : Nat) (s0_0 : List Int) (s0_1 : Int) (s0_2 : Int) : Option ((List (List Int)) × Int × Int) := (spec_l1Cur_among.f s0_0 s0_1 s0_2 (([2, 1, 3, 2, 0, 16] : List Int))).bind fun bt135 => (spec_l1Cur_memory.l0 k bt135.1 s0_0 bt135.2.1 bt135.2.2 (([] : List (List Int))))
theorem spec_l1Cur_memory.mono_l : ∀ k, (∀ y0 y1 y2 y3 y4, LeO (spec_l1Cur_memory.l0 k y0 y1 y2 y3 y4) (spec_l1Cur_memory.l0 (k + 1) y0 y1 y2 y3 y4)) ∧ (∀ y0 y1 y2 y3, LeO (spec_l1Cur_memory.l1 k y0 y1 y2 y3) (spec_l1Cur_memory.l1 (k + 1) y0 y1 y2 y3))
 | 0 => ⟨fun _ _ _ _ _ r h => by simp [spec_l1Cur_memory.l0] at h, fun _ _ _ _ r h => by simp [spec_l1Cur_memory.l1] at h⟩
 | k + 1 => by
  obtain ⟨ih0, ih1⟩ := spec_l1Cur_memory.mono_l k
  refine ⟨?_, ?_⟩
  ·intro y0 y1 y2 y3 y4
   unfold spec_l1Cur_memory.l0
   repeat' first
   | (with_reducible exact ih0 _ _ _ _ _)
   | (with_reducible exact ih1 _ _ _ _)
   | (with_reducible exact spec_l1Cur_bytesOf.mono _ _ _ _ _)
   | (with_reducible exact LeO.refl _)
   | (with_reducible exact LeO.none _)
   | (with_reducible refine LeO.ite ?_ ?_)
   | (with_reducible refine LeO.bind ?_ (fun _ => ?_))
   | exact ih0 _ _ _ _ _
   | exact ih1 _ _ _ _
   | exact spec_l1Cur_bytesOf.mono _ _ _ _ _
   | exact LeO.none _
   | refine LeO.ite ?_ ?_
   | refine LeO.bind ?_ (fun _ => ?_)
  ·intro y0 y1 y2 y3
   unfold spec_l1Cur_memory.l1
   repeat' first
   | (with_reducible exact ih0 _ _ _ _ _)
   | (with_reducible exact ih1 _ _ _ _)
   | (with_reducible exact spec_l1Cur_bytesOf.mono _ _ _ _ _)
   | (with_reducible exact LeO.refl _)
   | (with_reducible exact LeO.none _)
   | (with_reducible refine LeO.ite ?_ ?_)
   | (with_reducible refine LeO.bind ?_ (fun _ => ?_))
   | exact ih0 _ _ _ _ _
   | exact ih1 _ _ _ _
   | exact spec_l1Cur_bytesOf.mono _ _ _ _ _
   | exact LeO.none _
   | refine LeO.ite ?_ ?_
   | refine LeO.bind ?_ (fun _ => ?_)
theorem spec_l1Cur_memory.mono : ∀ a0 a1 a2 k, LeO (spec_l1Cur_memory.f k a0 a1 a2) (spec_l1Cur_memory.f (k + 1) a0 a1 a2) := by
 intro a0 a1 a2 k
 obtain ⟨ih0, ih1⟩ := spec_l1Cur_memory.mono_l k
 unfold spec_l1Cur_memory.f
 repeat' first
   | (with_reducible exact ih0 _ _ _ _ _)
   | (with_reducible exact ih1 _ _ _ _)
   | (with_reducible exact spec_l1Cur_bytesOf.mono _ _ _ _ _)
   | (with_reducible exact LeO.refl _)
   | (with_reducible exact LeO.none _)
   | (with_reducible refine LeO.ite ?_ ?_)
   | (with_reducible refine LeO.bind ?_ (fun _ => ?_))
   | exact ih0 _ _ _ _ _
   | exact ih1 _ _ _ _
   | exact spec_l1Cur_bytesOf.mono _ _ _ _ _
   | exact LeO.none _
   | refine LeO.ite ?_ ?_
   | refine LeO.bind ?_ (fun _ => ?_)
def spec_l1Cur_memory.T5 : Bool × List (List Nat × List Nat) := (true, [([], []), ([0], [0]), ([], []), ([], []), ([], []), ([3, 4], [3, 4]), ([2, 5, 5], [2, 5]), ([6], [6]), ([1, 7, 6], [1, 7]), ([0, 1, 2, 3, 4, 5, 6, 7, 8], []), ([9, 8, 8, 0, 1, 2, 3, 4, 5, 6, 7, 8], [8, 9])])
def spec_l1Cur_memory.B5 : List Nat := [0, 1, 0, 0, 0, 24, 60, 124, 255, 511, 1023]
theorem spec_l1Cur_memory.tab5 : rtab .any (opsOf Try.f52 5) = spec_l1Cur_memory.T5 := by kernel_rfl
theorem spec_l1Cur_memory.bits5 : waitsOk spec_l1Cur_memory.T5.2 spec_l1Cur_memory.B5 = true := by kernel_rfl
def spec_l1Cur_memory.T10 : Bool × List (List Nat × List Nat) := (true, [([], []), ([0], [0]), ([], []), ([2], [2]), ([3], [3]), ([1, 4, 3], [1, 4]), ([0, 1, 2, 3, 4, 5], []), ([6, 5, 5, 0, 1, 2, 3, 4, 5], [5, 6])])
def spec_l1Cur_memory.B10 : List Nat := [0, 1, 0, 4, 12, 31, 63, 127]
theorem spec_l1Cur_memory.tab10 : rtab .any (opsOf Try.f52 10) = spec_l1Cur_memory.T10 := by kernel_rfl
theorem spec_l1Cur_memory.bits10 : waitsOk spec_l1Cur_memory.T10.2 spec_l1Cur_memory.B10 = true := by kernel_rfl
set_option maxHeartbeats 8000000 in
set_option maxRecDepth 100000 in
theorem spec_l1Cur_memory.calls (k : Nat) (g : Nat) (s0_0 : List Int) (s0_1 : Int) (s0_2 : Int) (r1 : List (List Int)) (r2 : Int) (r3 : Int) (w0 w : World) (hI : IsS82 w0 w g s0_0 s0_1 s0_2) (hB : Below w0.heap.size w0 w) (h : spec_l1Cur_memory.f k s0_0 s0_1 s0_2 = some (r1, r2, r3)) :
  Calls Try.prog 52 #[.pointer (some ⟨g, 0, none⟩)] w fun e w' => ∃ v0_ : Value, e = .returned (.agg #[v0_]) ∧ Kd.S (Kd.slice 5 (Kd.int .u8)) 43 w' w.heap.size (fun _ => True) v0_ r1 ∧ IsS82 w0 w' g s0_0 r2 r3 ∧ Below w0.heap.size w0 w' ∧ KeepBut w w' g none := by
 have hu32 := Try.underlying32
 have HI0 := Aside0.mk hI
 have HK := Aside0.mk (KeepBut.refl w g none)
 have HL := Aside0.mk hB.size
 clear hI
 have HW0 := Aside0.mk hB.size
 have HB := Aside0.mk hB
 clear hB
 have H : ((spec_l1Cur_among.f s0_0 s0_1 s0_2 (([2, 1, 3, 2, 0, 16] : List Int))).bind fun bt135 => (spec_l1Cur_memory.l0 k bt135.1 s0_0 bt135.2.1 bt135.2.2 (([] : List (List Int))))) = some (r1, r2, r3) := h
 clear h
 obtain ⟨y128, hy128⟩ : ∃ y_ : List (List Int), y_ = (([] : List (List Int))) := ⟨_, rfl⟩
 replace H : ((spec_l1Cur_among.f s0_0 s0_1 s0_2 (([2, 1, 3, 2, 0, 16] : List Int))).bind fun bt135 => (spec_l1Cur_memory.l0 k bt135.1 s0_0 bt135.2.1 bt135.2.2 y128)) = some (r1, r2, r3) := by first | (rw [hy128]; with_reducible exact H) | (have H2_ := (Option.bind_some _ _).symm.trans H; rw [hy128]; with_reducible exact H2_) | (have H2_ := (Option.bind_some _ _).symm.trans H; with_reducible exact H2_) | with_reducible exact H | (rw [hy128]; exact H) | exact H
 have Ny128 := Aside0.mk hy128
 clear hy128
 obtain ⟨y132, hy132⟩ : ∃ y_ : List Int, y_ = (([2, 1, 3, 2, 0, 16] : List Int)) := ⟨_, rfl⟩
 replace H : ((spec_l1Cur_among.f s0_0 s0_1 s0_2 y132).bind fun bt135 => (spec_l1Cur_memory.l0 k bt135.1 s0_0 bt135.2.1 bt135.2.2 y128)) = some (r1, r2, r3) := by first | (rw [hy132]; with_reducible exact H) | (have H2_ := (Option.bind_some _ _).symm.trans H; rw [hy132]; with_reducible exact H2_) | (have H2_ := (Option.bind_some _ _).symm.trans H; with_reducible exact H2_) | with_reducible exact H | (rw [hy132]; exact H) | exact H
 have Ny132 := Aside0.mk hy132
 clear hy132
 replace H := Option.bind_eq_some_iff.mp H
 obtain ⟨⟨t135, t136, t137⟩, A20, H⟩ := H
 replace H : (spec_l1Cur_memory.l0 k t135 s0_0 t136 t137 y128) = some (r1, r2, r3) := H
 have A2 := Aside0.mk A20
 clear A20
 have H' := Aside0.mk H
 clear H
 go_enter Try.func52, Try.ntmps52
 go_wp2_with (first | ((with_reducible refine gate_dst (N := 2) rfl ?_); refine box_event ?hg (N := 2) ?hd (cs := #[.slice none 0 0]) (t := 32) ?hr ?_; (case hd => rfl); (case hg => rfl); (case hr => first | (go_simp; done) | (go_simp; rfl)); intro gb127 hg w3 hbox hb; have n0_ := Aside0.mk (IsS82.below (by repeat (first | (with_reducible first | exact HI0.out | apply IsS82.alloc | apply IsS82.drewN | apply IsS82.drew | apply IsS82.set_1 | apply IsS82.set_2) | exact HI0.out)) hb); have n1_ := Aside0.mk (KeepBut.trans (by repeat (first | (with_reducible first | exact HK.out | apply KeepBut.set_ | apply keep_drewN | apply keep_drew | apply keep_alloc) | exact HK.out)) (KeepBut.of_below hb g none) (.inl rfl)); have n2_ := Aside0.mk (below_step (by repeat (first | (with_reducible first | exact HB.out | apply below_alloc | apply pw_below_drewN | apply below_drew1 | refine below_set ?_ (IsS82.ge HI0.out)) | exact HB.out)) hb); have n3_ := Aside0.mk (hbox); have n4_ := Aside0.mk ((by rw [hg]; exact (keep_size (w := w) (g := g) (row := none) (by repeat (first | (with_reducible first | exact HK.out | apply KeepBut.set_ | apply keep_drewN | apply keep_drew | apply keep_alloc) | exact HK.out))) : w.heap.size ≤ gb127)); have n5_ := Aside0.mk ((Nat.le_trans HW0.out (by rw [hg]; exact (keep_size (w := w) (g := g) (row := none) (by repeat (first | (with_reducible first | exact HK.out | apply KeepBut.set_ | apply keep_drewN | apply keep_drew | apply keep_alloc) | exact HK.out))) : w.heap.size ≤ gb127) : w0.heap.size ≤ gb127)); have n6_ := Aside0.mk ((by rw [hg]; exact Nat.ne_of_lt (IsS82.lt (show IsS82 w0 _ g s0_0 s0_1 s0_2 from by repeat (first | (with_reducible first | exact HI0.out | apply IsS82.alloc | apply IsS82.drewN | apply IsS82.drew | apply IsS82.set_1 | apply IsS82.set_2) | exact HI0.out))) : g ≠ gb127)); have n7_ := Aside0.mk ((by rw [hg]; exact Nat.ne_of_gt (IsS82.lt (show IsS82 w0 _ g s0_0 s0_1 s0_2 from by repeat (first | (with_reducible first | exact HI0.out | apply IsS82.alloc | apply IsS82.drewN | apply IsS82.drew | apply IsS82.set_1 | apply IsS82.set_2) | exact HI0.out))) : gb127 ≠ g)); clear HI0; clear HK; clear HB; have HI0 := n0_; have HK := n1_; have HB := n2_; have BK127 := n3_; have GW127 := n4_; have GE127 := n5_; have NB0_127 := n6_; have NB127_0 := n7_; clear n0_ n1_ n2_ n3_ n4_ n5_ n6_ n7_; clear hb hbox hg) | ((with_reducible refine gate_dst (N := 5) rfl ?_); refine Kd.S_lit (Kd.slice 5 (Kd.int .u8)) _ 43 ?hg (N := 5) ?hd (xs := ([] : List (List Int))) (inner := []) (ok := fun _ => True) (okp := fun _ => True) ?hr ?hp (fun _ hk => hk) trivial (Below.refl _ _) (Nat.le_refl _) (by simp) ?_; (case hd => rfl); (case hg => rfl); (case hr => first | (go_simp; done) | (go_simp; rfl)); (case hp => exact (Reps.none _ _)); intro v129 w4 ho5 hb hg_ hnew_; clear hg_ hnew_; (first | rw [← Ny128.out] at ho5 | (simp only [Int.reduceToNat] at ho5; rw [← Ny128.out] at ho5)); have n0_ := Aside0.mk (Kd.S_lower ho5 (keep_size (w := w) (g := g) (row := none) (by repeat (first | (with_reducible first | exact HK.out | apply KeepBut.set_ | apply keep_drewN | apply keep_drew | apply keep_alloc | refine keep_far ?_ GW127.out _) | exact HK.out)))); have n1_ := Aside0.mk (IsS82.below (by repeat (first | (with_reducible first | exact HI0.out | apply IsS82.alloc | apply IsS82.drewN | apply IsS82.drew | apply IsS82.set_1 | apply IsS82.set_2 | refine IsS82.far ?_ NB0_127.out _) | exact HI0.out)) hb); have n2_ := Aside0.mk (blk_below (g := gb127) (o := .cells #[.slice none 0 0] 32 (0, 0)) (by (with_reducible repeat (first | refine blk_drewN ?_ _ | refine blk_drew ?_ | refine blk_alloc ?_ _)); exact BK127.out) hb); have n3_ := Aside0.mk (KeepBut.trans (by repeat (first | (with_reducible first | exact HK.out | apply KeepBut.set_ | apply keep_drewN | apply keep_drew | apply keep_alloc | refine keep_far ?_ GW127.out _) | exact HK.out)) (KeepBut.of_below hb g none) (.inl rfl)); have n4_ := Aside0.mk (below_step (by repeat (first | (with_reducible first | exact HB.out | apply below_alloc | apply pw_below_drewN | apply below_drew1 | refine below_set ?_ (IsS82.ge HI0.out) | refine below_set ?_ GE127.out) | exact HB.out)) hb); clear HI0; clear BK127; clear HK; clear HB; have HO130 := n0_; have HI0 := n1_; have BK127 := n2_; have HK := n3_; have HB := n4_; clear n0_ n1_ n2_ n3_ n4_; clear hb ho5; obtain ⟨Ao6, co6, eo6⟩ := Kd.S_slice HO130.out; subst eo6) | ((with_reducible refine gate_dst (N := 3) rfl ?_); refine box_event ?hg (N := 3) ?hd (cs := #[.slice none 0 0]) (t := 32) ?hr ?_; (case hd => rfl); (case hg => rfl); (case hr => first | (go_simp; done) | (go_simp; rfl)); intro gb131 hg w7 hbox hb; have n0_ := zsb HO130 hb; have n1_ := Aside0.mk (IsS82.below (by repeat (first | (with_reducible first | exact HI0.out | apply IsS82.alloc | apply IsS82.drewN | apply IsS82.drew | apply IsS82.set_1 | apply IsS82.set_2 | refine IsS82.far ?_ NB0_127.out _) | exact HI0.out)) hb); have n2_ := Aside0.mk (blk_below (g := gb127) (o := .cells #[.slice none 0 0] 32 (0, 0)) (by (with_reducible repeat (first | refine blk_drewN ?_ _ | refine blk_drew ?_ | refine blk_alloc ?_ _)); exact BK127.out) hb); have n3_ := Aside0.mk (KeepBut.trans (by repeat (first | (with_reducible first | exact HK.out | apply KeepBut.set_ | apply keep_drewN | apply keep_drew | apply keep_alloc | refine keep_far ?_ GW127.out _) | exact HK.out)) (KeepBut.of_below hb g none) (.inl rfl)); have n4_ := Aside0.mk (below_step (by repeat (first | (with_reducible first | exact HB.out | apply below_alloc | apply pw_below_drewN | apply below_drew1 | refine below_set ?_ (IsS82.ge HI0.out) | refine below_set ?_ GE127.out) | exact HB.out)) hb); have n5_ := Aside0.mk (hbox); have n6_ := Aside0.mk ((by rw [hg]; exact (keep_size (w := w) (g := g) (row := none) (by repeat (first | (with_reducible first | exact HK.out | apply KeepBut.set_ | apply keep_drewN | apply keep_drew | apply keep_alloc | refine keep_far ?_ GW127.out _) | exact HK.out))) : w.heap.size ≤ gb131)); have n7_ := Aside0.mk ((Nat.le_trans HW0.out (by rw [hg]; exact (keep_size (w := w) (g := g) (row := none) (by repeat (first | (with_reducible first | exact HK.out | apply KeepBut.set_ | apply keep_drewN | apply keep_drew | apply keep_alloc | refine keep_far ?_ GW127.out _) | exact HK.out))) : w.heap.size ≤ gb131) : w0.heap.size ≤ gb131)); have n8_ := Aside0.mk ((by rw [hg]; exact Nat.ne_of_lt (blk_lt (g := gb127) (o := .cells #[.slice none 0 0] 32 (0, 0)) (by (with_reducible repeat (first | refine blk_drewN ?_ _ | refine blk_drew ?_ | refine blk_alloc ?_ _)); exact BK127.out)) : gb127 ≠ gb131)); have n9_ := Aside0.mk ((by rw [hg]; exact Nat.ne_of_gt (blk_lt (g := gb127) (o := .cells #[.slice none 0 0] 32 (0, 0)) (by (with_reducible repeat (first | refine blk_drewN ?_ _ | refine blk_drew ?_ | refine blk_alloc ?_ _)); exact BK127.out)) : gb131 ≠ gb127)); have n10_ := Aside0.mk ((by rw [hg]; exact Nat.ne_of_lt (IsS82.lt (show IsS82 w0 _ g s0_0 s0_1 s0_2 from by repeat (first | (with_reducible first | exact HI0.out | apply IsS82.alloc | apply IsS82.drewN | apply IsS82.drew | apply IsS82.set_1 | apply IsS82.set_2 | refine IsS82.far ?_ NB0_127.out _) | exact HI0.out))) : g ≠ gb131)); have n11_ := Aside0.mk ((by rw [hg]; exact Nat.ne_of_gt (IsS82.lt (show IsS82 w0 _ g s0_0 s0_1 s0_2 from by repeat (first | (with_reducible first | exact HI0.out | apply IsS82.alloc | apply IsS82.drewN | apply IsS82.drew | apply IsS82.set_1 | apply IsS82.set_2 | refine IsS82.far ?_ NB0_127.out _) | exact HI0.out))) : gb131 ≠ g)); clear HO130; clear HI0; clear BK127; clear HK; clear HB; have HO130 := n0_; have HI0 := n1_; have BK127 := n2_; have HK := n3_; have HB := n4_; have BK131 := n5_; have GW131 := n6_; have GE131 := n7_; have NB127_131 := n8_; have NB131_127 := n9_; have NB0_131 := n10_; have NB131_0 := n11_; clear n0_ n1_ n2_ n3_ n4_ n5_ n6_ n7_ n8_ n9_ n10_ n11_; clear hb hbox hg; have hnb8 := NB131_127.out; have hnc8 := NB127_131.out; have hnb9 := NB131_0.out; have hnc9 := NB0_131.out; have hcz10_0 := zc0 BK131 0 rfl; have hfz10_0 := blk_frozen BK131.out 0) | ((with_reducible refine gate_dst (N := 8) rfl ?_); refine Kd.R_lit (Kd.int .i64) _ 3 ?hg (N := 8) ?hd (xs := ([2, 1, 3, 2, 0, 16] : List Int)) (inner := [.int .i64 2, .int .i64 1, .int .i64 3, .int .i64 2, .int .i64 0, .int .i64 16]) (ok := fun _ => True) (okp := fun _ => True) ?hr ?hp (fun _ hk => hk) trivial (Below.refl _ _) (Nat.le_refl _) (by simp) ?_; (case hd => rfl); (case hg => rfl); (case hr => first | (go_simp; done) | (go_simp; rfl)); (case hp => exact (Reps.one (show Kd.M (Kd.int .i64) _ _ _ 2 [.int .i64 2] from rfl) (Reps.one (show Kd.M (Kd.int .i64) _ _ _ 1 [.int .i64 1] from rfl) (Reps.one (show Kd.M (Kd.int .i64) _ _ _ 3 [.int .i64 3] from rfl) (Reps.one (show Kd.M (Kd.int .i64) _ _ _ 2 [.int .i64 2] from rfl) (Reps.one (show Kd.M (Kd.int .i64) _ _ _ 0 [.int .i64 0] from rfl) (Reps.one (show Kd.M (Kd.int .i64) _ _ _ 16 [.int .i64 16] from rfl) (Reps.none _ _)))))))); intro v133 w11 ho12 hb hg_ hnew_; clear hg_ hnew_; (first | rw [← Ny132.out] at ho12 | (simp only [Int.reduceToNat] at ho12; rw [← Ny132.out] at ho12)); have n0_ := Aside0.mk (Kd.S_below (by (with_reducible repeat (first | apply Kd.S_alloc | apply Kd.S_drewN | apply Kd.S_drew)); exact (Kd.S_mono (Kd.S_far (p := ⟨gb131, 0, none⟩) (Kd.S_types HO130.out BK131.out (by decide)) (fun _ hk => hk.2) (.slice Ao6 y128.length co6)) (fun _ h_ => h_.1))) hb); have n1_ := Aside0.mk (Kd.R_lower ho12 (keep_size (w := w) (g := g) (row := none) (by repeat (first | (with_reducible first | exact HK.out | apply KeepBut.set_ | apply keep_drewN | apply keep_drew | apply keep_alloc | refine keep_far ?_ GW127.out _ | refine keep_far ?_ GW131.out _) | exact HK.out)))); have n2_ := Aside0.mk (IsS82.below (show IsS82 w0 (w7.setCell ⟨gb131, 0, none⟩ (.slice Ao6 y128.length co6)) g s0_0 s0_1 s0_2 from by repeat (first | (with_reducible first | exact HI0.out | apply IsS82.alloc | apply IsS82.drewN | apply IsS82.drew | apply IsS82.set_1 | apply IsS82.set_2 | refine IsS82.far ?_ NB0_127.out _ | refine IsS82.far ?_ NB0_131.out _) | exact HI0.out)) hb); have n3_ := Aside0.mk (blk_below (g := gb127) (o := .cells #[.slice none 0 0] 32 (0, 0)) (by (with_reducible repeat (first | refine blk_drewN ?_ _ | refine blk_drew ?_ | refine blk_alloc ?_ _)); refine blk_far ?_ NB127_131.out _; (with_reducible repeat (first | refine blk_drewN ?_ _ | refine blk_drew ?_ | refine blk_alloc ?_ _)); exact BK127.out) hb); have n4_ := Aside0.mk (blk_below (g := gb131) (o := .cells #[.slice Ao6 y128.length co6] 32 (0, 0)) (by (with_reducible repeat (first | refine blk_drewN ?_ _ | refine blk_drew ?_ | refine blk_alloc ?_ _)); refine blk_put (cs := #[.slice none 0 0]) ?_ 0 _ rfl; (with_reducible repeat (first | refine blk_drewN ?_ _ | refine blk_drew ?_ | refine blk_alloc ?_ _)); exact BK131.out) hb); have n5_ := Aside0.mk (KeepBut.trans (by repeat (first | (with_reducible first | exact HK.out | apply KeepBut.set_ | apply keep_drewN | apply keep_drew | apply keep_alloc | refine keep_far ?_ GW127.out _ | refine keep_far ?_ GW131.out _) | exact HK.out)) (KeepBut.of_below hb g none) (.inl rfl)); have n6_ := Aside0.mk (below_step (by repeat (first | (with_reducible first | exact HB.out | apply below_alloc | apply pw_below_drewN | apply below_drew1 | refine below_set ?_ (IsS82.ge HI0.out) | refine below_set ?_ GE127.out | refine below_set ?_ GE131.out) | exact HB.out)) hb); clear HO130; clear HI0; clear BK127; clear BK131; clear HK; clear HB; have HO130 := n0_; have HO134 := n1_; have HI0 := n2_; have BK127 := n3_; have BK131 := n4_; have HK := n5_; have HB := n6_; clear n0_ n1_ n2_ n3_ n4_ n5_ n6_; clear hb ho12; obtain ⟨Ao13, co13, eo13⟩ := Kd.R_slice HO134.out; subst eo13) | ((with_reducible refine gate_callee (f := 55) rfl ?_); refine goesL_ (some 9) rfl rfl Try.func55 (by kernel_rfl) rfl #[.pointer (some ⟨g, 0, none⟩), .slice Ao13 y132.length co13] rfl (by (try simp only [zq1, zq2, zq3]); first | done | rfl | (simp only [List.length_drop, List.length_take]; rfl)) ?_; (with_reducible refine (spec_l1Cur_among.calls g s0_0 s0_1 s0_2 _ _ y132 t135 t136 t137 w0 _ ?side1 ?side2 ?side3 ?side4 ?side5 A2.out).mono ?_); (case side1 => repeat (first | (with_reducible first | exact HI0.out | apply IsS82.alloc | apply IsS82.drewN | apply IsS82.drew | apply IsS82.set_1 | apply IsS82.set_2 | refine IsS82.far ?_ NB0_127.out _ | refine IsS82.far ?_ NB0_131.out _) | exact HI0.out)); (case side2 => repeat (first | (with_reducible first | exact HB.out | apply below_alloc | apply pw_below_drewN | apply below_drew1 | refine below_set ?_ (IsS82.ge HI0.out) | refine below_set ?_ GE127.out | refine below_set ?_ GE131.out) | exact HB.out)); (case side3 => repeat (first | exact (Kd.R_reads' HO134.out).2.2 | (with_reducible refine Kd.C_alloc ?_ _) | (with_reducible refine Kd.C_drewN ?_ _) | (with_reducible refine Kd.C_drew ?_))); (case side4 => exact (Kd.R_reads' HO134.out).2.1); (case side5 => exact far_slice (IsS82.own_ne HI0.out HO134.out (by decide))); rintro e w14 ⟨rfl, hi, hb, hk⟩; refine ⟨_, rfl, ?_⟩; replace BK127 := Aside0.mk (KeepBut.blk hk (g' := gb127) (o := .cells #[.slice none 0 0] 32 (0, 0)) (by (with_reducible repeat (first | refine blk_drewN ?_ _ | refine blk_drew ?_ | refine blk_alloc ?_ _)); exact BK127.out) NB127_0.out (by simp)); replace HO130 := Aside0.mk (Kd.S_mono (Kd.S_keep (IsS82.apartS (show IsS82 w0 _ g s0_0 s0_1 s0_2 from by repeat (first | (with_reducible first | exact HI0.out | apply IsS82.alloc | apply IsS82.drewN | apply IsS82.drew | apply IsS82.set_1 | apply IsS82.set_2 | refine IsS82.far ?_ NB0_127.out _ | refine IsS82.far ?_ NB0_131.out _) | exact HI0.out)) (zs0 HO130) (by decide)) hk (fun _ h => h.2)) (fun _ h => h.1)); replace BK131 := Aside0.mk (KeepBut.blk hk (g' := gb131) (o := .cells #[.slice Ao6 y128.length co6] 32 (0, 0)) (by (with_reducible repeat (first | refine blk_drewN ?_ _ | refine blk_drew ?_ | refine blk_alloc ?_ _)); exact BK131.out) NB131_0.out (by simp)); replace HO134 := Aside0.mk (Kd.R_mono (Kd.R_keep (IsS82.apart (show IsS82 w0 _ g s0_0 s0_1 s0_2 from by repeat (first | (with_reducible first | exact HI0.out | apply IsS82.alloc | apply IsS82.drewN | apply IsS82.drew | apply IsS82.set_1 | apply IsS82.set_2 | refine IsS82.far ?_ NB0_127.out _ | refine IsS82.far ?_ NB0_131.out _) | exact HI0.out)) (zr0 HO134) (by decide)) hk (fun _ h => h.2)) (fun _ h => h.1)); replace HK := Aside0.mk (KeepBut.trans (by repeat (first | (with_reducible first | exact HK.out | apply KeepBut.set_ | apply keep_drewN | apply keep_drew | apply keep_alloc | refine keep_far ?_ GW127.out _ | refine keep_far ?_ GW131.out _) | exact HK.out)) hk (.inl rfl)); replace HB := Aside0.mk (hb); replace HI0 := Aside0.mk (hi); (try clear hb); (try clear hb2); (try clear hk); (try clear hi)))
 go_loopg [4] k (fun kq v4 w' => ∃ (x4_1 : Int) (x1001_1 : Int) (x1002_1 : Int) (x132000_1 : List (List Int)) (u132000 : Value), v4 = .int .i64 x4_1 ∧ Aside0 (spec_l1Cur_memory.l0 kq x4_1 s0_0 x1001_1 x1002_1 x132000_1 = some (r1, r2, r3)) ∧ Aside0 (kq ≤ k) ∧ Aside0 (Kd.S (Kd.slice 5 (Kd.int .u8)) 43 w' w.heap.size (fun _ => True) u132000 x132000_1) ∧ Aside0 (w'.heap[gb127]? = some (.cells #[(.slice none 0 0)] 32 (0, 0))) ∧ Aside0 (w'.heap[gb131]? = some (.cells #[u132000] 32 (0, 0))) ∧ Aside0 (IsS82 w0 w' g s0_0 x1001_1 x1002_1) ∧ Aside0 (KeepBut w w' g none) ∧ Aside0 (Below w0.heap.size w0 w'))
 case atStart => exact ⟨(t135), (t136), (t137), (y128), (.slice Ao6 y128.length co6), (by first | rfl | (simp; done) | (simp [*]; done)), H', ⟨Nat.le_refl _⟩, ⟨zs0 HO130⟩, ⟨zk0 BK127⟩, ⟨zk0 BK131⟩, ⟨by repeat (first | (with_reducible first | exact HI0.out | apply IsS82.alloc | apply IsS82.drewN | apply IsS82.drew | apply IsS82.set_1 | apply IsS82.set_2 | refine IsS82.far ?_ NB0_127.out _ | refine IsS82.far ?_ NB0_131.out _) | exact HI0.out)⟩, ⟨by repeat (first | (with_reducible first | exact HK.out | apply KeepBut.set_ | apply keep_drewN | apply keep_drew | apply keep_alloc | refine keep_far ?_ GW127.out _ | refine keep_far ?_ GW131.out _) | exact HK.out)⟩, ⟨by repeat (first | (with_reducible first | exact HB.out | apply below_alloc | apply pw_below_drewN | apply below_drew1 | refine below_set ?_ (IsS82.ge HI0.out) | refine below_set ?_ GE127.out | refine below_set ?_ GE131.out) | exact HB.out)⟩⟩
 case round =>
  clear H'
  try clear p2
  try clear c5
  try clear c8
  try clear c9
  try clear hcz10_0
  try clear hfz10_0
  obtain ⟨x4_1, x1001_1, x1002_1, x132000_1, u132000, rfl, HA, HK1, HO_132000, BK127, BK131, HI0, HK, HB⟩ := hrel
  cases gk with
  | zero => exact absurd HA.out (by simp [spec_l1Cur_memory.l0])
  | succ k1 =>
   have H := HA.out
   clear HA
   simp only [spec_l1Cur_memory.l0] at H
   by_cases c15 : x4_1 > 0
   ·rw [if_pos c15] at H
    have c15b0 : decide (0 < x4_1) = true := decide_eq_true c15
    clear c15
    obtain ⟨y138, hy138⟩ : ∃ y_ : List Int, y_ = (([8, 12, 4, 16, 1, 2, 20, 64] : List Int)) := ⟨_, rfl⟩
    replace H : ((spec_l1Cur_among.f s0_0 x1001_1 x1002_1 y138).bind fun bt141 => ((spec_l1Cur_bytesOf.f k1 s0_0 bt141.2.1 bt141.2.2 bt141.1).bind fun bt144 => (if x132000_1.length < 5864062014805 then (spec_l1Cur_memory.l0 k1 (wrap64 (x4_1 - 1)) s0_0 bt144.2.1 bt144.2.2 (x132000_1 ++ [bt144.1])) else (none)))) = some (r1, r2, r3) := by first | (rw [hy138]; with_reducible exact H) | (have H2_ := (Option.bind_some _ _).symm.trans H; rw [hy138]; with_reducible exact H2_) | (have H2_ := (Option.bind_some _ _).symm.trans H; with_reducible exact H2_) | with_reducible exact H | (rw [hy138]; exact H) | exact H
    have Ny138 := Aside0.mk hy138
    clear hy138
    replace H := Option.bind_eq_some_iff.mp H
    obtain ⟨⟨t141, t142, t143⟩, A160, H⟩ := H
    replace H : ((spec_l1Cur_bytesOf.f k1 s0_0 t142 t143 t141).bind fun bt144 => (if x132000_1.length < 5864062014805 then (spec_l1Cur_memory.l0 k1 (wrap64 (x4_1 - 1)) s0_0 bt144.2.1 bt144.2.2 (x132000_1 ++ [bt144.1])) else (none))) = some (r1, r2, r3) := H
    have A16 := Aside0.mk A160
    clear A160
    replace H := Option.bind_eq_some_iff.mp H
    obtain ⟨⟨t144, t147, t148⟩, A170, H⟩ := H
    replace H : (if x132000_1.length < 5864062014805 then (spec_l1Cur_memory.l0 k1 (wrap64 (x4_1 - 1)) s0_0 t147 t148 (x132000_1 ++ [t144])) else (none)) = some (r1, r2, r3) := H
    have A17 := Aside0.mk A170
    clear A170
    by_cases c18 : x132000_1.length < 5864062014805
    ·rw [if_pos c18] at H
     have LMc18 := Aside0.mk c18
     clear c18
     obtain ⟨y149, hy149⟩ : ∃ y_ : List (List Int), y_ = (x132000_1 ++ [t144]) := ⟨_, rfl⟩
     replace H : (spec_l1Cur_memory.l0 k1 (wrap64 (x4_1 - 1)) s0_0 t147 t148 y149) = some (r1, r2, r3) := by first | (rw [hy149]; with_reducible exact H) | (have H2_ := (Option.bind_some _ _).symm.trans H; rw [hy149]; with_reducible exact H2_) | (have H2_ := (Option.bind_some _ _).symm.trans H; with_reducible exact H2_) | with_reducible exact H | (rw [hy149]; exact H) | exact H
     have Ny149 := Aside0.mk hy149
     clear hy149
     have H' := Aside0.mk H
     clear H
     try go_wp2
     replace HO_132000 := Aside0.mk (Kd.S_drew HO_132000.out)
     replace BK127 := Aside0.mk (blk_drew BK127.out)
     replace BK131 := Aside0.mk (blk_drew BK131.out)
     replace HI0 := Aside0.mk (IsS82.drew HI0.out)
     replace HK := Aside0.mk (keep_drew HK.out)
     replace HB := Aside0.mk (below_drew1 HB.out)
     refine start_ (n := 11) (S := fun w' => w'.cell? ⟨gb131, 0, none⟩ = some (u132000)) (ds := [10]) #[zF, zF, zF, zF, zF, zF, zF, zF, zF, zF, zF] (by kernel_rfl) rfl rfl (zc0 BK131 0 rfl) (fun hHeld => ?_); refine with_tabW spec_l1Cur_memory.tab5 spec_l1Cur_memory.bits5 (fun HT_ HW_ => ?_)
     generalize wr.drew = w19 at HO_132000 BK127 BK131 HI0 HK HB hHeld ⊢
     refine pure_ (i := 0) (N := some 14) (v := ?_) (a' := ?_) #[zT, zF, zF, zF, zF, zF, zF, zF, zF, zF, zF] rfl rfl (any_of HT_.out (by kernel_rfl)) (fun _ _ _ h => h) (Or.inl ⟨by rfl, ?_⟩) ?_ ?_
     rotate_left
     ·intro w'
      go_simp
      with_reducible rfl
     rotate_left
     ·simp only [Act.put, zp1, zp2, zp3, i64_w, i32_w]
      rfl
     refine pure_ (i := 2) (N := some 16) (v := ?_) (a' := ?_) #[zT, zF, zT, zF, zF, zF, zF, zF, zF, zF, zF] rfl rfl (any_of HT_.out (by kernel_rfl)) (fun _ _ _ h => h) (Or.inl ⟨by rfl, ?_⟩) ?_ ?_
     rotate_left
     ·intro w'
      go_simp
      with_reducible rfl
     rotate_left
     ·simp only [Act.put, zp1, zp2, zp3, i64_w, i32_w]
      rfl
     refine pure_ (i := 3) (N := some 17) (v := ?_) (a' := ?_) #[zT, zF, zT, zT, zF, zF, zF, zF, zF, zF, zF] rfl rfl (any_of HT_.out (by kernel_rfl)) (fun _ _ _ h => h) (Or.inl ⟨by rfl, ?_⟩) ?_ ?_
     rotate_left
     ·intro w'
      go_simp
      with_reducible rfl
     rotate_left
     ·simp only [Act.put, zp1, zp2, zp3, i64_w, i32_w]
      rfl
     refine take_ (i := 1) (N := some 15) (v := ?_) (a' := ?_) #[zT, zT, zT, zT, zF, zF, zF, zF, zF, zF, zF] rfl rfl (take_ofW HT_.out HW_.out (by kernel_rfl)) (fun _ _ _ h => h) (Or.inl ⟨by rfl, ?_⟩) hHeld ?_ ?_
     rotate_left
     ·intro w' s0
      go_simp
      with_reducible rfl
     rotate_left
     ·simp only [Act.put, zp1, zp2, zp3, i64_w, i32_w]
      rfl
     refine one_ (i := 4) (N := some 18) #[zT, zT, zT, zT, zT, zF, zF, zF, zF, zF, zF] rfl rfl (one_of HT_.out (by kernel_rfl)) (by decide) (fun K hK => ?_)
     refine Kd.R_lit_step (Kd.int .i64) _ 3 ?hg (N := 18) ?hd (xs := ([8, 12, 4, 16, 1, 2, 20, 64] : List Int)) (inner := [.int .i64 8, .int .i64 12, .int .i64 4, .int .i64 16, .int .i64 1, .int .i64 2, .int .i64 20, .int .i64 64]) (ok := fun _ => True) (okp := fun _ => True) ?hr ?hp (fun _ hk => hk) trivial (Below.refl _ _) (Nat.le_refl _) (by simp) ?_; (case hd => rfl); (case hg => rfl); (case hr => first | (go_simp; done) | (go_simp; rfl)); (case hp => exact (Reps.one (show Kd.M (Kd.int .i64) _ _ _ 8 [.int .i64 8] from rfl) (Reps.one (show Kd.M (Kd.int .i64) _ _ _ 12 [.int .i64 12] from rfl) (Reps.one (show Kd.M (Kd.int .i64) _ _ _ 4 [.int .i64 4] from rfl) (Reps.one (show Kd.M (Kd.int .i64) _ _ _ 16 [.int .i64 16] from rfl) (Reps.one (show Kd.M (Kd.int .i64) _ _ _ 1 [.int .i64 1] from rfl) (Reps.one (show Kd.M (Kd.int .i64) _ _ _ 2 [.int .i64 2] from rfl) (Reps.one (show Kd.M (Kd.int .i64) _ _ _ 20 [.int .i64 20] from rfl) (Reps.one (show Kd.M (Kd.int .i64) _ _ _ 64 [.int .i64 64] from rfl) (Reps.none _ _))))))))))
     intro v139 w20 ho21 hb hg_ hnew_
     clear hg_ hnew_
     (first | rw [← Ny138.out] at ho21 | (simp only [Int.reduceToNat] at ho21; rw [← Ny138.out] at ho21))
     have n0_ := zsb HO_132000 hb
     have n1_ := Aside0.mk (Kd.R_lower ho21 (keep_size (w := w) (g := g) (row := none) (by repeat (first | (with_reducible first | exact HK.out | apply KeepBut.set_ | apply keep_drewN | apply keep_drew | apply keep_alloc | refine keep_far ?_ GW127.out _ | refine keep_far ?_ GW131.out _) | exact HK.out))))
     have n2_ := zb0 BK127 hb
     have n3_ := zb0 BK131 hb
     have n4_ := Aside0.mk (IsS82.below (by repeat (first | (with_reducible first | exact HI0.out | apply IsS82.alloc | apply IsS82.drewN | apply IsS82.drew | apply IsS82.set_1 | apply IsS82.set_2 | refine IsS82.far ?_ NB0_127.out _ | refine IsS82.far ?_ NB0_131.out _) | exact HI0.out)) hb)
     have n5_ := Aside0.mk (KeepBut.trans (by repeat (first | (with_reducible first | exact HK.out | apply KeepBut.set_ | apply keep_drewN | apply keep_drew | apply keep_alloc | refine keep_far ?_ GW127.out _ | refine keep_far ?_ GW131.out _) | exact HK.out)) (KeepBut.of_below hb g none) (.inl rfl))
     have n6_ := Aside0.mk (below_step (by repeat (first | (with_reducible first | exact HB.out | apply below_alloc | apply pw_below_drewN | apply below_drew1 | refine below_set ?_ (IsS82.ge HI0.out) | refine below_set ?_ GE127.out | refine below_set ?_ GE131.out) | exact HB.out)) hb)
     clear HO_132000
     clear BK127
     clear BK131
     clear HI0
     clear HK
     clear HB
     have HO_132000 := n0_
     have HO140 := n1_
     have BK127 := n2_
     have BK131 := n3_
     have HI0 := n4_
     have HK := n5_
     have HB := n6_
     clear n0_ n1_ n2_ n3_ n4_ n5_ n6_
     clear hb ho21
     obtain ⟨Ao22, co22, eo22⟩ := Kd.R_slice HO140.out
     (first | subst eo22 | (injection eo22 with f1_ f2_ f3_; have f4_ := f1_.symm; have f5_ := f3_.symm; clear f1_ f2_ f3_; subst f4_; subst f5_))
     refine hK.out _ _ (zc0 BK131 0 rfl) (fun hHeld => ?_)
     clear hK K
     refine norm_ (a' := ?_) ?_ ?_
     rotate_left
     ·show Act.put _ (some 18) _ = _
      simp only [Act.put, zp1, zp2, zp3, i64_w, i32_w]
      rfl
     refine one_ (i := 5) (N := some 19) #[zT, zT, zT, zT, zT, zT, zF, zF, zF, zF, zF] rfl rfl (one_of HT_.out (by kernel_rfl)) (by decide) (fun K hK => ?_)
     refine goes_ Try.func55 (by kernel_rfl) rfl #[.pointer (some ⟨g, 0, none⟩), .slice Ao22 y138.length co22] (by rfl) rfl rfl (by (try simp only [zq1, zq2, zq3]); first | done | rfl | (simp only [List.length_drop, List.length_take]; rfl)) ?_
     with_reducible refine (spec_l1Cur_among.calls g s0_0 x1001_1 x1002_1 _ _ y138 t141 t142 t143 w0 _ ?side1 ?side2 ?side3 ?side4 ?side5 A16.out).mono ?_
     (case side1 => repeat (first | (with_reducible first | exact HI0.out | apply IsS82.alloc | apply IsS82.drewN | apply IsS82.drew | apply IsS82.set_1 | apply IsS82.set_2 | refine IsS82.far ?_ NB0_127.out _ | refine IsS82.far ?_ NB0_131.out _) | exact HI0.out))
     (case side2 => repeat (first | (with_reducible first | exact HB.out | apply below_alloc | apply pw_below_drewN | apply below_drew1 | refine below_set ?_ (IsS82.ge HI0.out) | refine below_set ?_ GE127.out | refine below_set ?_ GE131.out) | exact HB.out))
     (case side3 => repeat (first | exact (Kd.R_reads' HO140.out).2.2 | (with_reducible refine Kd.C_alloc ?_ _) | (with_reducible refine Kd.C_drewN ?_ _) | (with_reducible refine Kd.C_drew ?_)))
     (case side4 => exact (Kd.R_reads' HO140.out).2.1)
     (case side5 => exact far_slice (IsS82.own_ne HI0.out HO140.out (by decide)))
     rintro e w23 ⟨rfl, hi, hb, hk⟩
     refine ⟨_, rfl, ?_⟩
     replace HO_132000 := Aside0.mk (Kd.S_mono (Kd.S_keep (IsS82.apartS (show IsS82 w0 _ g s0_0 x1001_1 x1002_1 from by repeat (first | (with_reducible first | exact HI0.out | apply IsS82.alloc | apply IsS82.drewN | apply IsS82.drew | apply IsS82.set_1 | apply IsS82.set_2 | refine IsS82.far ?_ NB0_127.out _ | refine IsS82.far ?_ NB0_131.out _) | exact HI0.out)) (zs0 HO_132000) (by decide)) hk (fun _ h => h.2)) (fun _ h => h.1))
     replace BK127 := Aside0.mk (KeepBut.blk hk (g' := gb127) (o := .cells #[.slice none 0 0] 32 (0, 0)) (zk0 BK127) NB127_0.out (by simp))
     replace BK131 := Aside0.mk (KeepBut.blk hk (g' := gb131) (o := .cells #[u132000] 32 (0, 0)) (zk0 BK131) NB131_0.out (by simp))
     replace HO140 := Aside0.mk (Kd.R_mono (Kd.R_keep (IsS82.apart (show IsS82 w0 _ g s0_0 x1001_1 x1002_1 from by repeat (first | (with_reducible first | exact HI0.out | apply IsS82.alloc | apply IsS82.drewN | apply IsS82.drew | apply IsS82.set_1 | apply IsS82.set_2 | refine IsS82.far ?_ NB0_127.out _ | refine IsS82.far ?_ NB0_131.out _) | exact HI0.out)) (zr0 HO140) (by decide)) hk (fun _ h => h.2)) (fun _ h => h.1))
     replace HK := Aside0.mk (KeepBut.trans (by repeat (first | (with_reducible first | exact HK.out | apply KeepBut.set_ | apply keep_drewN | apply keep_drew | apply keep_alloc | refine keep_far ?_ GW127.out _ | refine keep_far ?_ GW131.out _) | exact HK.out)) hk (.inl rfl))
     replace HB := Aside0.mk (hb)
     replace HI0 := Aside0.mk (hi)
     (try clear hb)
     (try clear hb2)
     (try clear hk)
     (try clear hi)
     refine hK.out _ _ (zc0 BK131 0 rfl) (fun hHeld => ?_)
     clear hK K
     refine norm_ (a' := ?_) ?_ ?_
     rotate_left
     ·show Act.put _ (some 19) _ = _
      simp only [Act.put, zp1, zp2, zp3, i64_w, i32_w]
      rfl
     refine one_ (i := 6) (N := some 20) #[zT, zT, zT, zT, zT, zT, zT, zF, zF, zF, zF] rfl rfl (one_of HT_.out (by kernel_rfl)) (by decide) (fun K hK => ?_)
     refine goes_ Try.func54 (by kernel_rfl) rfl #[.pointer (some ⟨g, 0, none⟩), .int .i64 t141] (by rfl) rfl rfl (by (try simp only [zq1, zq2, zq3]); first | done | rfl | (simp only [List.length_drop, List.length_take]; rfl)) ?_
     with_reducible refine (spec_l1Cur_bytesOf.calls k1 g s0_0 t142 t143 t141 t144 t147 t148 w0 _ ?side1 ?side2 A17.out).mono ?_
     (case side1 => repeat (first | (with_reducible first | exact HI0.out | apply IsS82.alloc | apply IsS82.drewN | apply IsS82.drew | apply IsS82.set_1 | apply IsS82.set_2 | refine IsS82.far ?_ NB0_127.out _ | refine IsS82.far ?_ NB0_131.out _) | exact HI0.out))
     (case side2 => repeat (first | (with_reducible first | exact HB.out | apply below_alloc | apply pw_below_drewN | apply below_drew1 | refine below_set ?_ (IsS82.ge HI0.out) | refine below_set ?_ GE127.out | refine below_set ?_ GE131.out) | exact HB.out))
     rintro e w24 ⟨v145, rfl, ho0, hi, hb, hk⟩
     refine ⟨_, rfl, ?_⟩
     have HO146 := Aside0.mk (Kd.R_lower ho0 (keep_size (w := w) (g := g) (row := none) (by repeat (first | (with_reducible first | exact HK.out | apply KeepBut.set_ | apply keep_drewN | apply keep_drew | apply keep_alloc | refine keep_far ?_ GW127.out _ | refine keep_far ?_ GW131.out _) | exact HK.out))))
     replace HO_132000 := Aside0.mk (Kd.S_mono (Kd.S_told (Kd.S_oldK (IsS82.apartS (show IsS82 w0 _ g s0_0 t142 t143 from by repeat (first | (with_reducible first | exact HI0.out | apply IsS82.alloc | apply IsS82.drewN | apply IsS82.drew | apply IsS82.set_1 | apply IsS82.set_2 | refine IsS82.far ?_ NB0_127.out _ | refine IsS82.far ?_ NB0_131.out _) | exact HI0.out)) (zs0 HO_132000) (by decide)) hk) (Kd.R_base ho0)) (fun _ h_ => h_.1))
     replace BK127 := Aside0.mk (KeepBut.blk hk (g' := gb127) (o := .cells #[.slice none 0 0] 32 (0, 0)) (zk0 BK127) NB127_0.out (by simp))
     replace BK131 := Aside0.mk (KeepBut.blk hk (g' := gb131) (o := .cells #[u132000] 32 (0, 0)) (zk0 BK131) NB131_0.out (by simp))
     replace HO140 := Aside0.mk (Kd.R_mono (Kd.R_keep (IsS82.apart (show IsS82 w0 _ g s0_0 t142 t143 from by repeat (first | (with_reducible first | exact HI0.out | apply IsS82.alloc | apply IsS82.drewN | apply IsS82.drew | apply IsS82.set_1 | apply IsS82.set_2 | refine IsS82.far ?_ NB0_127.out _ | refine IsS82.far ?_ NB0_131.out _) | exact HI0.out)) (zr0 HO140) (by decide)) hk (fun _ h => h.2)) (fun _ h => h.1))
     replace HK := Aside0.mk (KeepBut.trans (by repeat (first | (with_reducible first | exact HK.out | apply KeepBut.set_ | apply keep_drewN | apply keep_drew | apply keep_alloc | refine keep_far ?_ GW127.out _ | refine keep_far ?_ GW131.out _) | exact HK.out)) hk (.inl rfl))
     replace HB := Aside0.mk (hb)
     replace HI0 := Aside0.mk (hi)
     (try clear hb)
     (try clear hb2)
     (try clear hk)
     (try clear hi)
     (try clear ho0)
     obtain ⟨Ao26, co26, eo26⟩ := Kd.R_slice HO146.out
     (first | subst eo26 | (injection eo26 with f1_ f2_ f3_; have f4_ := f1_.symm; have f5_ := f3_.symm; clear f1_ f2_ f3_; subst f4_; subst f5_))
     refine hK.out _ _ (zc0 BK131 0 rfl) (fun hHeld => ?_)
     clear hK K
     refine norm_ (a' := ?_) ?_ ?_
     rotate_left
     ·show Act.put _ (some 20) _ = _
      simp only [Act.put, zp1, zp2, zp3, i64_w, i32_w]
      rfl
     refine one_ (i := 7) (N := some 21) #[zT, zT, zT, zT, zT, zT, zT, zT, zF, zF, zF] rfl rfl (one_of HT_.out (by kernel_rfl)) (by decide) (fun K hK => ?_)
     refine value_ (w1 := ?_) (v := ?_) (by rfl) rfl ?_ ?_
     rotate_left 2
     ·go_simp
      constructor
      ·rfl
      ·rfl
     refine hK.out _ _ ((blk_cell (blk_alloc BK131.out _) 0).trans rfl) (fun hHeld => ?_)
     clear hK K
     refine norm_ (a' := ?_) ?_ ?_
     rotate_left
     ·show Act.put _ (some 21) _ = _
      simp only [Act.put, zp1, zp2, zp3, i64_w, i32_w]
      rfl
     refine one_ (i := 8) (N := some 22) #[zT, zT, zT, zT, zT, zT, zT, zT, zT, zF, zF] rfl rfl (one_of HT_.out (by kernel_rfl)) (by decide) (fun K hK => ?_)
     refine Kd.S_append_step (Kd.slice 5 (Kd.int .u8)) w.heap.size (by rfl) (.tmp 15) (.tmp 21) 22 43 (.slice none 0 0) 24 rfl Try.underlying22 info43 rfl (by decide) (by omega) u132000 x132000_1 t144 [.slice Ao26 t144.length co26] (fun _ => True) (fun k_ => some k_ = (.slice Ao26 t144.length co26 : Value).ownBlock) rfl rfl ?aP (fun k_ hk_ => ((Kd.R_mono (ok' := fun k_ => ((fun _ => True)) k_ ∧ some k_ ≠ (u132000 : Value).ownBlock) (Kd.R_apart' (HO146.out) (Kd.S_typed HO_132000.out) (by decide)) (fun k_ hk => ⟨trivial, hk.2⟩))).1 k_ hk_.symm) ?aF ?aO (Below.refl _ _) ?aS ?aL ?_
     (case aP => exact Kd.M_row (Kd.R_mono (Kd.R_tight rfl (Kd.R_mono (ok' := fun k_ => ((fun _ => True)) k_ ∧ some k_ ≠ (u132000 : Value).ownBlock) (Kd.R_apart' (HO146.out) (Kd.S_typed HO_132000.out) (by decide)) (fun k_ hk => ⟨trivial, hk.2⟩))) (fun _ h_ => h_)))
     (case aF => exact (fun _ _ => trivial))
     (case aO => exact (by (with_reducible repeat (first | apply Kd.S_alloc | apply Kd.S_drewN | apply Kd.S_drew)); exact Kd.S_mono HO_132000.out (fun k_ hk => ⟨trivial, fun e_ => hk.2 e_⟩)))
     (case aS => exact (keep_size (w := w) (g := g) (row := none) (by repeat (first | (with_reducible first | exact HK.out | apply KeepBut.set_ | apply keep_drewN | apply keep_drew | apply keep_alloc | refine keep_far ?_ GW127.out _ | refine keep_far ?_ GW131.out _) | exact HK.out))))
     (case aL => have := LMc18.out; omega)
     intro v150 w25 ho hb hg hat
     rw [← Ny149.out] at ho
     have n0_ := Aside0.mk (blk_grown (g := gb127) (o := .cells #[.slice none 0 0] 32 (0, 0)) (zk0 BK127) hg (Kd.S_ne HO_132000.out BK127.out (by decide)))
     have n1_ := Aside0.mk (blk_grown (g := gb131) (o := .cells #[u132000] 32 (0, 0)) (zk0 BK131) hg (Kd.S_ne HO_132000.out BK131.out (by decide)))
     have n2_ := Aside0.mk (IsS82.grown (by repeat (first | (with_reducible first | exact HI0.out | apply IsS82.alloc | apply IsS82.drewN | apply IsS82.drew | apply IsS82.set_1 | apply IsS82.set_2 | refine IsS82.far ?_ NB0_127.out _ | refine IsS82.far ?_ NB0_131.out _) | exact HI0.out)) hg (IsS82.own_neS HI0.out HO_132000.out (by decide)))
     have n3_ := Aside0.mk (Kd.R_over' (zr0 HO140) (Kd.S_typed (zs0 HO_132000)) (by decide) hg)
     have n4_ := Aside0.mk (below_weaken (by repeat (first | (with_reducible first | exact HB.out | apply below_alloc | apply pw_below_drewN | apply below_drew1 | refine below_set ?_ (IsS82.ge HI0.out) | refine below_set ?_ GE127.out | refine below_set ?_ GE131.out) | exact HB.out)) HL.out hb)
     have n5_ := Aside0.mk (KeepBut.trans (by repeat (first | (with_reducible first | exact HK.out | apply KeepBut.set_ | apply keep_drewN | apply keep_drew | apply keep_alloc | refine keep_far ?_ GW127.out _ | refine keep_far ?_ GW131.out _) | exact HK.out)) (KeepBut.of_grown hg g) (Kd.S_base2 HO_132000.out))
     have n6_ := Aside0.mk (ho)
     clear BK127
     clear BK131
     clear HI0
     clear HO140
     clear HB
     clear HK
     clear HO_132000
     clear HO146
     have BK127 := n0_
     have BK131 := n1_
     have HI0 := n2_
     have HO140 := n3_
     have HB := n4_
     have HK := n5_
     have HO151 := n6_
     clear n0_ n1_ n2_ n3_ n4_ n5_ n6_
     clear ho hb hg hat
     obtain ⟨Ao27, co27, eo27⟩ := Kd.S_slice HO151.out
     (first | subst eo27 | (injection eo27 with f1_ f2_ f3_; have f4_ := f1_.symm; have f5_ := f3_.symm; clear f1_ f2_ f3_; subst f4_; subst f5_))
     refine hK.out _ _ (zc0 BK131 0 rfl) (fun hHeld => ?_)
     clear hK K
     refine norm_ (a' := ?_) ?_ ?_
     rotate_left
     ·show Act.put _ (some 22) _ = _
      simp only [Act.put, zp1, zp2, zp3, i64_w, i32_w]
      rfl
     refine pure_ (i := 9) (N := some 23) (v := ?_) (a' := ?_) #[zT, zT, zT, zT, zT, zT, zT, zT, zT, zT, zF] rfl rfl (any_of HT_.out (by kernel_rfl)) (fun _ _ _ h => h) (Or.inl ⟨by rfl, ?_⟩) ?_ ?_
     rotate_left
     ·intro w'
      go_simp
      with_reducible rfl
     rotate_left
     ·simp only [Act.put, zp1, zp2, zp3, i64_w, i32_w]
      rfl
     refine last_ (i := 10) (N := none) #[zT, zT, zT, zT, zT, zT, zT, zT, zT, zT, zT] rfl rfl (one_of HT_.out (by kernel_rfl)) (by decide) (fun K hK => ?_)
     have hs28 : w25.cell? ⟨gb131, 0, none⟩ = some (u132000) := zc0 BK131 0 rfl
     have hfs28 := blk_frozen BK131.out 0
     have hns28_0 := NB127_131.out
     have hms28_0 := NB131_127.out
     refine skip_ (w1 := ?_) (by rfl) rfl ?_ ?_
     rotate_left
     ·go_simp
      rfl
     refine hK.out _ _ ?_
     clear hK K
     refine done_ (done_of HT_.out (by kernel_rfl)) ?_
     try go_wp2
     go_roundg k1
     case measure => have := HK1.out; omega
     case rel => exact ⟨(wrap64 (x4_1 - 1)), (t147), (t148), (y149), (.slice Ao27 y149.length co27), (by first | rfl | (simp; done) | (simp [*]; done)), H', ⟨by have := HK1.out; omega⟩, ⟨by (with_reducible repeat (first | apply Kd.S_alloc | apply Kd.S_drewN | apply Kd.S_drew)); exact Kd.S_mono (Kd.S_far (p := ⟨gb131, 0, none⟩) (Kd.S_types HO151.out BK131.out (by decide)) (fun _ hk => hk.2) (.slice Ao27 y149.length co27)) (fun _ hk => trivial)⟩, ⟨by (with_reducible repeat (first | refine blk_drewN ?_ _ | refine blk_drew ?_ | refine blk_alloc ?_ _)); refine blk_far ?_ NB127_131.out _; (with_reducible repeat (first | refine blk_drewN ?_ _ | refine blk_drew ?_ | refine blk_alloc ?_ _)); exact BK127.out⟩, ⟨by (with_reducible repeat (first | refine blk_drewN ?_ _ | refine blk_drew ?_ | refine blk_alloc ?_ _)); refine blk_put (cs := #[u132000]) ?_ 0 _ rfl; (with_reducible repeat (first | refine blk_drewN ?_ _ | refine blk_drew ?_ | refine blk_alloc ?_ _)); exact BK131.out⟩, ⟨by repeat (first | (with_reducible first | exact HI0.out | apply IsS82.alloc | apply IsS82.drewN | apply IsS82.drew | apply IsS82.set_1 | apply IsS82.set_2 | refine IsS82.far ?_ NB0_127.out _ | refine IsS82.far ?_ NB0_131.out _) | exact HI0.out)⟩, ⟨by repeat (first | (with_reducible first | exact HK.out | apply KeepBut.set_ | apply keep_drewN | apply keep_drew | apply keep_alloc | refine keep_far ?_ GW127.out _ | refine keep_far ?_ GW131.out _) | exact HK.out)⟩, ⟨by repeat (first | (with_reducible first | exact HB.out | apply below_alloc | apply pw_below_drewN | apply below_drew1 | refine below_set ?_ (IsS82.ge HI0.out) | refine below_set ?_ GE127.out | refine below_set ?_ GE131.out) | exact HB.out)⟩⟩
    ·rw [if_neg c18] at H
     exact absurd H (by simp)
   ·rw [if_neg c15] at H
    have c15b0 : decide (0 < x4_1) = false := decide_eq_false c15
    clear c15
    replace H := Option.bind_eq_some_iff.mp H
    obtain ⟨⟨t152, t153, t154⟩, A290, H⟩ := H
    replace H : (if t152 = 0 then (if x132000_1.length < 5864062014805 then (some ((x132000_1 ++ [(([] : List Int))]), t153, t154)) else (none)) else (if t152 = 1 then ((spec_l1Cur_bytesOf.f k1 s0_0 t153 t154 65).bind fun bt161 => (if x132000_1.length < 5864062014805 then (some ((x132000_1 ++ [bt161.1]), bt161.2.1, bt161.2.2)) else (none))) else (if t152 = 2 then (spec_l1Cur_memory.l1 k1 s0_0 t153 t154 x132000_1) else (some (x132000_1, t153, t154))))) = some (r1, r2, r3) := H
    have A29 := Aside0.mk A290
    clear A290
    by_cases c30 : t152 = 0
    ·rw [if_pos c30] at H
     have c30b0 : (t152 == 0) = true := beq_iff_eq.mpr c30
     have c30b1 : (t152 != 0) = false := bne_eq_false_iff_eq.mpr c30
     clear c30
     obtain ⟨y155, hy155⟩ : ∃ y_ : List Int, y_ = (([] : List Int)) := ⟨_, rfl⟩
     replace H : (if x132000_1.length < 5864062014805 then (some ((x132000_1 ++ [y155]), t153, t154)) else (none)) = some (r1, r2, r3) := by first | (rw [hy155]; with_reducible exact H) | (have H2_ := (Option.bind_some _ _).symm.trans H; rw [hy155]; with_reducible exact H2_) | (have H2_ := (Option.bind_some _ _).symm.trans H; with_reducible exact H2_) | with_reducible exact H | (rw [hy155]; exact H) | exact H
     have Ny155 := Aside0.mk hy155
     clear hy155
     by_cases c31 : x132000_1.length < 5864062014805
     ·rw [if_pos c31] at H
      have LMc31 := Aside0.mk c31
      clear c31
      obtain ⟨y158, hy158⟩ : ∃ y_ : List (List Int), y_ = (x132000_1 ++ [y155]) := ⟨_, rfl⟩
      replace H : (some (y158, t153, t154)) = some (r1, r2, r3) := by first | (rw [hy158]; with_reducible exact H) | (have H2_ := (Option.bind_some _ _).symm.trans H; rw [hy158]; with_reducible exact H2_) | (have H2_ := (Option.bind_some _ _).symm.trans H; with_reducible exact H2_) | with_reducible exact H | (rw [hy158]; exact H) | exact H
      have Ny158 := Aside0.mk hy158
      clear hy158
      simp only [Option.some.injEq, Prod.mk.injEq] at H
      obtain ⟨rfl, rfl, rfl⟩ := H
      go_wp2_with (first | ((with_reducible refine gate_callee (f := 56) rfl ?_); refine goesL_ (some 25) rfl rfl Try.func56 (by kernel_rfl) rfl #[.pointer (some ⟨g, 0, none⟩), .int .i64 50] rfl (by (try simp only [zq1, zq2, zq3]); first | done | rfl | (simp only [List.length_drop, List.length_take]; rfl)) ?_; (with_reducible refine (spec_l1Cur_pick.calls g s0_0 x1001_1 x1002_1 50 t152 t153 t154 w0 _ ?side1 ?side2 A29.out).mono ?_); (case side1 => repeat (first | (with_reducible first | exact HI0.out | apply IsS82.alloc | apply IsS82.drewN | apply IsS82.drew | apply IsS82.set_1 | apply IsS82.set_2 | refine IsS82.far ?_ NB0_127.out _ | refine IsS82.far ?_ NB0_131.out _) | exact HI0.out)); (case side2 => repeat (first | (with_reducible first | exact HB.out | apply below_alloc | apply pw_below_drewN | apply below_drew1 | refine below_set ?_ (IsS82.ge HI0.out) | refine below_set ?_ GE127.out | refine below_set ?_ GE131.out) | exact HB.out)); rintro e w32 ⟨rfl, hi, hb, hk⟩; refine ⟨_, rfl, ?_⟩; replace HO_132000 := Aside0.mk (Kd.S_mono (Kd.S_keep (IsS82.apartS (show IsS82 w0 _ g s0_0 x1001_1 x1002_1 from by repeat (first | (with_reducible first | exact HI0.out | apply IsS82.alloc | apply IsS82.drewN | apply IsS82.drew | apply IsS82.set_1 | apply IsS82.set_2 | refine IsS82.far ?_ NB0_127.out _ | refine IsS82.far ?_ NB0_131.out _) | exact HI0.out)) (zs0 HO_132000) (by decide)) hk (fun _ h => h.2)) (fun _ h => h.1)); replace BK127 := Aside0.mk (KeepBut.blk hk (g' := gb127) (o := .cells #[.slice none 0 0] 32 (0, 0)) (zk0 BK127) NB127_0.out (by simp)); replace BK131 := Aside0.mk (KeepBut.blk hk (g' := gb131) (o := .cells #[u132000] 32 (0, 0)) (zk0 BK131) NB131_0.out (by simp)); replace HK := Aside0.mk (KeepBut.trans (by repeat (first | (with_reducible first | exact HK.out | apply KeepBut.set_ | apply keep_drewN | apply keep_drew | apply keep_alloc | refine keep_far ?_ GW127.out _ | refine keep_far ?_ GW131.out _) | exact HK.out)) hk (.inl rfl)); replace HB := Aside0.mk (hb); replace HI0 := Aside0.mk (hi); (try clear hb); (try clear hb2); (try clear hk); (try clear hi); have hnb33 := NB131_127.out; have hnc33 := NB127_131.out; have hnb34 := NB131_0.out; have hnc34 := NB0_131.out; have hcz35_0 := zc0 BK131 0 rfl; have hfz35_0 := blk_frozen BK131.out 0) | ((with_reducible refine gate_dst (N := 30) rfl ?_); refine Kd.R_lit (Kd.int .u8) _ 5 ?hg (N := 30) ?hd (xs := ([] : List Int)) (inner := []) (ok := fun _ => True) (okp := fun _ => True) ?hr ?hp (fun _ hk => hk) trivial (Below.refl _ _) (Nat.le_refl _) (by simp) ?_; (case hd => rfl); (case hg => rfl); (case hr => first | (go_simp; done) | (go_simp; rfl)); (case hp => exact (Reps.none _ _)); intro v156 w36 ho37 hb hg_ hnew_; clear hg_ hnew_; (first | rw [← Ny155.out] at ho37 | (simp only [Int.reduceToNat] at ho37; rw [← Ny155.out] at ho37)); have n0_ := Aside0.mk (Kd.S_elder' (zs0 HO_132000) (Kd.R_base ho37) hb); have n1_ := Aside0.mk (Kd.R_lower ho37 (keep_size (w := w) (g := g) (row := none) (by repeat (first | (with_reducible first | exact HK.out | apply KeepBut.set_ | apply keep_drewN | apply keep_drew | apply keep_alloc | refine keep_far ?_ GW127.out _ | refine keep_far ?_ GW131.out _) | exact HK.out)))); have n2_ := zb0 BK127 hb; have n3_ := zb0 BK131 hb; have n4_ := Aside0.mk (IsS82.below (by repeat (first | (with_reducible first | exact HI0.out | apply IsS82.alloc | apply IsS82.drewN | apply IsS82.drew | apply IsS82.set_1 | apply IsS82.set_2 | refine IsS82.far ?_ NB0_127.out _ | refine IsS82.far ?_ NB0_131.out _) | exact HI0.out)) hb); have n5_ := Aside0.mk (KeepBut.trans (by repeat (first | (with_reducible first | exact HK.out | apply KeepBut.set_ | apply keep_drewN | apply keep_drew | apply keep_alloc | refine keep_far ?_ GW127.out _ | refine keep_far ?_ GW131.out _) | exact HK.out)) (KeepBut.of_below hb g none) (.inl rfl)); have n6_ := Aside0.mk (below_step (by repeat (first | (with_reducible first | exact HB.out | apply below_alloc | apply pw_below_drewN | apply below_drew1 | refine below_set ?_ (IsS82.ge HI0.out) | refine below_set ?_ GE127.out | refine below_set ?_ GE131.out) | exact HB.out)) hb); clear HO_132000; clear BK127; clear BK131; clear HI0; clear HK; clear HB; have HO_132000 := n0_; have HO157 := n1_; have BK127 := n2_; have BK131 := n3_; have HI0 := n4_; have HK := n5_; have HB := n6_; clear n0_ n1_ n2_ n3_ n4_ n5_ n6_; clear hb ho37; obtain ⟨Ao39, co39, eo39⟩ := Kd.R_slice HO157.out; subst eo39) | ((with_reducible refine gate_builtin (b := .append) (xs := #[.tmp 29, .tmp 31]) rfl ?_); at_builtin; refine Kd.S_append (Kd.slice 5 (Kd.int .u8)) w.heap.size rfl (.tmp 29) (.tmp 31) 22 43 (.slice none 0 0) 24 rfl Try.underlying22 info43 rfl (by decide) (by omega) u132000 x132000_1 y155 [.slice Ao39 y155.length co39] (fun _ => True) (fun k_ => some k_ = (.slice Ao39 y155.length co39 : Value).ownBlock) rfl rfl ?aP (fun k_ hk_ => ((Kd.R_mono (ok' := fun k_ => ((fun _ => True)) k_ ∧ some k_ ≠ (u132000 : Value).ownBlock) (Kd.R_apart' (HO157.out) (Kd.S_typed HO_132000.out) (by decide)) (fun k_ hk => ⟨trivial, hk.2⟩))).1 k_ hk_.symm) ?aF ?aO (Below.refl _ _) ?aS ?aL ?_; (case aP => exact Kd.M_row (Kd.R_mono (Kd.R_tight rfl (Kd.R_mono (ok' := fun k_ => ((fun _ => True)) k_ ∧ some k_ ≠ (u132000 : Value).ownBlock) (Kd.R_apart' (HO157.out) (Kd.S_typed HO_132000.out) (by decide)) (fun k_ hk => ⟨trivial, hk.2⟩))) (fun _ h_ => h_))); (case aF => exact (fun _ _ => trivial)); (case aO => exact (by (with_reducible repeat (first | apply Kd.S_alloc | apply Kd.S_drewN | apply Kd.S_drew)); exact Kd.S_mono HO_132000.out (fun k_ hk => ⟨trivial, fun e_ => hk.2 e_⟩))); (case aS => exact (keep_size (w := w) (g := g) (row := none) (by repeat (first | (with_reducible first | exact HK.out | apply KeepBut.set_ | apply keep_drewN | apply keep_drew | apply keep_alloc | refine keep_far ?_ GW127.out _ | refine keep_far ?_ GW131.out _) | exact HK.out)))); (case aL => have := LMc31.out; omega); intro v159 w38 ho hb hg hat; rw [← Ny158.out] at ho; have n0_ := Aside0.mk (blk_grown (g := gb127) (o := .cells #[.slice none 0 0] 32 (0, 0)) (zk0 BK127) hg (Kd.S_ne HO_132000.out BK127.out (by decide))); have n1_ := Aside0.mk (blk_grown (g := gb131) (o := .cells #[u132000] 32 (0, 0)) (zk0 BK131) hg (Kd.S_ne HO_132000.out BK131.out (by decide))); have n2_ := Aside0.mk (IsS82.grown (by repeat (first | (with_reducible first | exact HI0.out | apply IsS82.alloc | apply IsS82.drewN | apply IsS82.drew | apply IsS82.set_1 | apply IsS82.set_2 | refine IsS82.far ?_ NB0_127.out _ | refine IsS82.far ?_ NB0_131.out _) | exact HI0.out)) hg (IsS82.own_neS HI0.out HO_132000.out (by decide))); have n3_ := Aside0.mk (below_weaken (by repeat (first | (with_reducible first | exact HB.out | apply below_alloc | apply pw_below_drewN | apply below_drew1 | refine below_set ?_ (IsS82.ge HI0.out) | refine below_set ?_ GE127.out | refine below_set ?_ GE131.out) | exact HB.out)) HL.out hb); have n4_ := Aside0.mk (KeepBut.trans (by repeat (first | (with_reducible first | exact HK.out | apply KeepBut.set_ | apply keep_drewN | apply keep_drew | apply keep_alloc | refine keep_far ?_ GW127.out _ | refine keep_far ?_ GW131.out _) | exact HK.out)) (KeepBut.of_grown hg g) (Kd.S_base2 HO_132000.out)); have n5_ := Aside0.mk (ho); clear BK127; clear BK131; clear HI0; clear HB; clear HK; clear HO_132000; clear HO157; have BK127 := n0_; have BK131 := n1_; have HI0 := n2_; have HB := n3_; have HK := n4_; have HO160 := n5_; clear n0_ n1_ n2_ n3_ n4_ n5_; clear ho hb hg hat; obtain ⟨Ao40, co40, eo40⟩ := Kd.S_slice HO160.out; subst eo40; have hcz41_0 := zc0 BK131 0 rfl; have hfz41_0 := blk_frozen BK131.out 0; have hnb42 := NB127_0.out; have hnc42 := NB0_127.out; have hcz43_0 := zc0 BK127 0 rfl; have hfz43_0 := blk_frozen BK127.out 0))
      refine bodyPost_ret (results_cell_row rfl _ _ gb127 32 #[.slice Ao40 y158.length co40] (0, 0) _ rfl (by (with_reducible repeat (first | refine blk_drewN ?_ _ | refine blk_drew ?_ | refine blk_alloc ?_ _)); refine blk_put (cs := #[.slice none 0 0]) ?_ 0 _ rfl; refine blk_far ?_ NB127_131.out _; (with_reducible repeat (first | refine blk_drewN ?_ _ | refine blk_drew ?_ | refine blk_alloc ?_ _)); exact BK127.out) Try.underlying32 rfl (by kernel_rfl)) rfl ?_
      exact ⟨_, by first | rfl | (simp <;> rfl) | (simp [*] <;> rfl), by (with_reducible repeat (first | apply Kd.S_alloc | apply Kd.S_drewN | apply Kd.S_drew)); exact Kd.S_mono (Kd.S_far (p := ⟨gb127, 0, none⟩) (Kd.S_far (p := ⟨gb131, 0, none⟩) (Kd.S_types (Kd.S_types HO160.out BK131.out (by decide)) BK127.out (by decide)) (fun _ hk => hk.1.2) (.slice Ao40 y158.length co40)) (fun _ hk => hk.2) (.slice Ao40 y158.length co40)) (fun _ hk => trivial), by repeat (first | (with_reducible first | exact HI0.out | apply IsS82.alloc | apply IsS82.drewN | apply IsS82.drew | apply IsS82.set_1 | apply IsS82.set_2 | refine IsS82.far ?_ NB0_127.out _ | refine IsS82.far ?_ NB0_131.out _) | exact HI0.out), by repeat (first | (with_reducible first | exact HB.out | apply below_alloc | apply pw_below_drewN | apply below_drew1 | refine below_set ?_ (IsS82.ge HI0.out) | refine below_set ?_ GE127.out | refine below_set ?_ GE131.out) | exact HB.out), by repeat (first | (with_reducible first | exact HK.out | apply KeepBut.set_ | apply keep_drewN | apply keep_drew | apply keep_alloc | refine keep_far ?_ GW127.out _ | refine keep_far ?_ GW131.out _) | exact HK.out)⟩
     ·rw [if_neg c31] at H
      exact absurd H (by simp)
    ·rw [if_neg c30] at H
     have c30b0 : (t152 == 0) = false := beq_eq_false_iff_ne.mpr c30
     have c30b1 : (t152 != 0) = true := bne_iff_ne.mpr c30
     by_cases c44 : t152 = 1
     ·rw [if_pos c44] at H
      have c44b0 : (t152 == 1) = true := beq_iff_eq.mpr c44
      have c44b1 : (t152 != 1) = false := bne_eq_false_iff_eq.mpr c44
      clear c44
      replace H := Option.bind_eq_some_iff.mp H
      obtain ⟨⟨t161, t164, t165⟩, A450, H⟩ := H
      replace H : (if x132000_1.length < 5864062014805 then (some ((x132000_1 ++ [t161]), t164, t165)) else (none)) = some (r1, r2, r3) := H
      have A45 := Aside0.mk A450
      clear A450
      by_cases c46 : x132000_1.length < 5864062014805
      ·rw [if_pos c46] at H
       have LMc46 := Aside0.mk c46
       clear c46
       obtain ⟨y166, hy166⟩ : ∃ y_ : List (List Int), y_ = (x132000_1 ++ [t161]) := ⟨_, rfl⟩
       replace H : (some (y166, t164, t165)) = some (r1, r2, r3) := by first | (rw [hy166]; with_reducible exact H) | (have H2_ := (Option.bind_some _ _).symm.trans H; rw [hy166]; with_reducible exact H2_) | (have H2_ := (Option.bind_some _ _).symm.trans H; with_reducible exact H2_) | with_reducible exact H | (rw [hy166]; exact H) | exact H
       have Ny166 := Aside0.mk hy166
       clear hy166
       simp only [Option.some.injEq, Prod.mk.injEq] at H
       obtain ⟨rfl, rfl, rfl⟩ := H
       try go_wp2_with (first | ((with_reducible refine gate_callee (f := 56) rfl ?_); refine goesL_ (some 25) rfl rfl Try.func56 (by kernel_rfl) rfl #[.pointer (some ⟨g, 0, none⟩), .int .i64 50] rfl (by (try simp only [zq1, zq2, zq3]); first | done | rfl | (simp only [List.length_drop, List.length_take]; rfl)) ?_; (with_reducible refine (spec_l1Cur_pick.calls g s0_0 x1001_1 x1002_1 50 t152 t153 t154 w0 _ ?side1 ?side2 A29.out).mono ?_); (case side1 => repeat (first | (with_reducible first | exact HI0.out | apply IsS82.alloc | apply IsS82.drewN | apply IsS82.drew | apply IsS82.set_1 | apply IsS82.set_2 | refine IsS82.far ?_ NB0_127.out _ | refine IsS82.far ?_ NB0_131.out _) | exact HI0.out)); (case side2 => repeat (first | (with_reducible first | exact HB.out | apply below_alloc | apply pw_below_drewN | apply below_drew1 | refine below_set ?_ (IsS82.ge HI0.out) | refine below_set ?_ GE127.out | refine below_set ?_ GE131.out) | exact HB.out)); rintro e w47 ⟨rfl, hi, hb, hk⟩; refine ⟨_, rfl, ?_⟩; replace HO_132000 := Aside0.mk (Kd.S_mono (Kd.S_keep (IsS82.apartS (show IsS82 w0 _ g s0_0 x1001_1 x1002_1 from by repeat (first | (with_reducible first | exact HI0.out | apply IsS82.alloc | apply IsS82.drewN | apply IsS82.drew | apply IsS82.set_1 | apply IsS82.set_2 | refine IsS82.far ?_ NB0_127.out _ | refine IsS82.far ?_ NB0_131.out _) | exact HI0.out)) (zs0 HO_132000) (by decide)) hk (fun _ h => h.2)) (fun _ h => h.1)); replace BK127 := Aside0.mk (KeepBut.blk hk (g' := gb127) (o := .cells #[.slice none 0 0] 32 (0, 0)) (zk0 BK127) NB127_0.out (by simp)); replace BK131 := Aside0.mk (KeepBut.blk hk (g' := gb131) (o := .cells #[u132000] 32 (0, 0)) (zk0 BK131) NB131_0.out (by simp)); replace HK := Aside0.mk (KeepBut.trans (by repeat (first | (with_reducible first | exact HK.out | apply KeepBut.set_ | apply keep_drewN | apply keep_drew | apply keep_alloc | refine keep_far ?_ GW127.out _ | refine keep_far ?_ GW131.out _) | exact HK.out)) hk (.inl rfl)); replace HB := Aside0.mk (hb); replace HI0 := Aside0.mk (hi); (try clear hb); (try clear hb2); (try clear hk); (try clear hi)))
       replace HO_132000 := Aside0.mk (Kd.S_drew HO_132000.out)
       replace BK127 := Aside0.mk (blk_drew BK127.out)
       replace BK131 := Aside0.mk (blk_drew BK131.out)
       replace HI0 := Aside0.mk (IsS82.drew HI0.out)
       replace HK := Aside0.mk (keep_drew HK.out)
       replace HB := Aside0.mk (below_drew1 HB.out)
       refine start_ (n := 8) (S := fun w' => w'.cell? ⟨gb131, 0, none⟩ = some (u132000)) (ds := [7]) #[zF, zF, zF, zF, zF, zF, zF, zF] (by kernel_rfl) rfl rfl (zc0 BK131 0 rfl) (fun hHeld => ?_); refine with_tabW spec_l1Cur_memory.tab10 spec_l1Cur_memory.bits10 (fun HT_ HW_ => ?_)
       generalize w47.drew = w48 at HO_132000 BK127 BK131 HI0 HK HB hHeld ⊢
       refine pure_ (i := 0) (N := some 36) (v := ?_) (a' := ?_) #[zT, zF, zF, zF, zF, zF, zF, zF] rfl rfl (any_of HT_.out (by kernel_rfl)) (fun _ _ _ h => h) (Or.inl ⟨by rfl, ?_⟩) ?_ ?_
       rotate_left
       ·intro w'
        go_simp
        with_reducible rfl
       rotate_left
       ·simp only [Act.put, zp1, zp2, zp3, i64_w, i32_w]
        rfl
       refine pure_ (i := 2) (N := some 38) (v := ?_) (a' := ?_) #[zT, zF, zT, zF, zF, zF, zF, zF] rfl rfl (any_of HT_.out (by kernel_rfl)) (fun _ _ _ h => h) (Or.inl ⟨by rfl, ?_⟩) ?_ ?_
       rotate_left
       ·intro w'
        go_simp
        with_reducible rfl
       rotate_left
       ·simp only [Act.put, zp1, zp2, zp3, i64_w, i32_w]
        rfl
       refine take_ (i := 1) (N := some 37) (v := ?_) (a' := ?_) #[zT, zT, zT, zF, zF, zF, zF, zF] rfl rfl (take_ofW HT_.out HW_.out (by kernel_rfl)) (fun _ _ _ h => h) (Or.inl ⟨by rfl, ?_⟩) hHeld ?_ ?_
       rotate_left
       ·intro w' s0
        go_simp
        with_reducible rfl
       rotate_left
       ·simp only [Act.put, zp1, zp2, zp3, i64_w, i32_w]
        rfl
       refine one_ (i := 3) (N := some 39) #[zT, zT, zT, zT, zF, zF, zF, zF] rfl rfl (one_of HT_.out (by kernel_rfl)) (by decide) (fun K hK => ?_)
       refine goes_ Try.func54 (by kernel_rfl) rfl #[.pointer (some ⟨g, 0, none⟩), .int .i64 65] (by rfl) rfl rfl (by (try simp only [zq1, zq2, zq3]); first | done | rfl | (simp only [List.length_drop, List.length_take]; rfl)) ?_
       with_reducible refine (spec_l1Cur_bytesOf.calls k1 g s0_0 t153 t154 65 t161 t164 t165 w0 _ ?side1 ?side2 A45.out).mono ?_
       (case side1 => repeat (first | (with_reducible first | exact HI0.out | apply IsS82.alloc | apply IsS82.drewN | apply IsS82.drew | apply IsS82.set_1 | apply IsS82.set_2 | refine IsS82.far ?_ NB0_127.out _ | refine IsS82.far ?_ NB0_131.out _) | exact HI0.out))
       (case side2 => repeat (first | (with_reducible first | exact HB.out | apply below_alloc | apply pw_below_drewN | apply below_drew1 | refine below_set ?_ (IsS82.ge HI0.out) | refine below_set ?_ GE127.out | refine below_set ?_ GE131.out) | exact HB.out))
       rintro e w49 ⟨v162, rfl, ho0, hi, hb, hk⟩
       refine ⟨_, rfl, ?_⟩
       have HO163 := Aside0.mk (Kd.R_lower ho0 (keep_size (w := w) (g := g) (row := none) (by repeat (first | (with_reducible first | exact HK.out | apply KeepBut.set_ | apply keep_drewN | apply keep_drew | apply keep_alloc | refine keep_far ?_ GW127.out _ | refine keep_far ?_ GW131.out _) | exact HK.out))))
       replace HO_132000 := Aside0.mk (Kd.S_mono (Kd.S_told (Kd.S_oldK (IsS82.apartS (show IsS82 w0 _ g s0_0 t153 t154 from by repeat (first | (with_reducible first | exact HI0.out | apply IsS82.alloc | apply IsS82.drewN | apply IsS82.drew | apply IsS82.set_1 | apply IsS82.set_2 | refine IsS82.far ?_ NB0_127.out _ | refine IsS82.far ?_ NB0_131.out _) | exact HI0.out)) (zs0 HO_132000) (by decide)) hk) (Kd.R_base ho0)) (fun _ h_ => h_.1))
       replace BK127 := Aside0.mk (KeepBut.blk hk (g' := gb127) (o := .cells #[.slice none 0 0] 32 (0, 0)) (zk0 BK127) NB127_0.out (by simp))
       replace BK131 := Aside0.mk (KeepBut.blk hk (g' := gb131) (o := .cells #[u132000] 32 (0, 0)) (zk0 BK131) NB131_0.out (by simp))
       replace HK := Aside0.mk (KeepBut.trans (by repeat (first | (with_reducible first | exact HK.out | apply KeepBut.set_ | apply keep_drewN | apply keep_drew | apply keep_alloc | refine keep_far ?_ GW127.out _ | refine keep_far ?_ GW131.out _) | exact HK.out)) hk (.inl rfl))
       replace HB := Aside0.mk (hb)
       replace HI0 := Aside0.mk (hi)
       (try clear hb)
       (try clear hb2)
       (try clear hk)
       (try clear hi)
       (try clear ho0)
       obtain ⟨Ao51, co51, eo51⟩ := Kd.R_slice HO163.out
       (first | subst eo51 | (injection eo51 with f1_ f2_ f3_; have f4_ := f1_.symm; have f5_ := f3_.symm; clear f1_ f2_ f3_; subst f4_; subst f5_))
       refine hK.out _ _ (zc0 BK131 0 rfl) (fun hHeld => ?_)
       clear hK K
       refine norm_ (a' := ?_) ?_ ?_
       rotate_left
       ·show Act.put _ (some 39) _ = _
        simp only [Act.put, zp1, zp2, zp3, i64_w, i32_w]
        rfl
       refine one_ (i := 4) (N := some 40) #[zT, zT, zT, zT, zT, zF, zF, zF] rfl rfl (one_of HT_.out (by kernel_rfl)) (by decide) (fun K hK => ?_)
       refine value_ (w1 := ?_) (v := ?_) (by rfl) rfl ?_ ?_
       rotate_left 2
       ·go_simp
        constructor
        ·rfl
        ·rfl
       refine hK.out _ _ ((blk_cell (blk_alloc BK131.out _) 0).trans rfl) (fun hHeld => ?_)
       clear hK K
       refine norm_ (a' := ?_) ?_ ?_
       rotate_left
       ·show Act.put _ (some 40) _ = _
        simp only [Act.put, zp1, zp2, zp3, i64_w, i32_w]
        rfl
       refine one_ (i := 5) (N := some 41) #[zT, zT, zT, zT, zT, zT, zF, zF] rfl rfl (one_of HT_.out (by kernel_rfl)) (by decide) (fun K hK => ?_)
       refine Kd.S_append_step (Kd.slice 5 (Kd.int .u8)) w.heap.size (by rfl) (.tmp 37) (.tmp 40) 22 43 (.slice none 0 0) 24 rfl Try.underlying22 info43 rfl (by decide) (by omega) u132000 x132000_1 t161 [.slice Ao51 t161.length co51] (fun _ => True) (fun k_ => some k_ = (.slice Ao51 t161.length co51 : Value).ownBlock) rfl rfl ?aP (fun k_ hk_ => ((Kd.R_mono (ok' := fun k_ => ((fun _ => True)) k_ ∧ some k_ ≠ (u132000 : Value).ownBlock) (Kd.R_apart' (HO163.out) (Kd.S_typed HO_132000.out) (by decide)) (fun k_ hk => ⟨trivial, hk.2⟩))).1 k_ hk_.symm) ?aF ?aO (Below.refl _ _) ?aS ?aL ?_
       (case aP => exact Kd.M_row (Kd.R_mono (Kd.R_tight rfl (Kd.R_mono (ok' := fun k_ => ((fun _ => True)) k_ ∧ some k_ ≠ (u132000 : Value).ownBlock) (Kd.R_apart' (HO163.out) (Kd.S_typed HO_132000.out) (by decide)) (fun k_ hk => ⟨trivial, hk.2⟩))) (fun _ h_ => h_)))
       (case aF => exact (fun _ _ => trivial))
       (case aO => exact (by (with_reducible repeat (first | apply Kd.S_alloc | apply Kd.S_drewN | apply Kd.S_drew)); exact Kd.S_mono HO_132000.out (fun k_ hk => ⟨trivial, fun e_ => hk.2 e_⟩)))
       (case aS => exact (keep_size (w := w) (g := g) (row := none) (by repeat (first | (with_reducible first | exact HK.out | apply KeepBut.set_ | apply keep_drewN | apply keep_drew | apply keep_alloc | refine keep_far ?_ GW127.out _ | refine keep_far ?_ GW131.out _) | exact HK.out))))
       (case aL => have := LMc46.out; omega)
       intro v167 w50 ho hb hg hat
       rw [← Ny166.out] at ho
       have n0_ := Aside0.mk (blk_grown (g := gb127) (o := .cells #[.slice none 0 0] 32 (0, 0)) (zk0 BK127) hg (Kd.S_ne HO_132000.out BK127.out (by decide)))
       have n1_ := Aside0.mk (blk_grown (g := gb131) (o := .cells #[u132000] 32 (0, 0)) (zk0 BK131) hg (Kd.S_ne HO_132000.out BK131.out (by decide)))
       have n2_ := Aside0.mk (IsS82.grown (by repeat (first | (with_reducible first | exact HI0.out | apply IsS82.alloc | apply IsS82.drewN | apply IsS82.drew | apply IsS82.set_1 | apply IsS82.set_2 | refine IsS82.far ?_ NB0_127.out _ | refine IsS82.far ?_ NB0_131.out _) | exact HI0.out)) hg (IsS82.own_neS HI0.out HO_132000.out (by decide)))
       have n3_ := Aside0.mk (below_weaken (by repeat (first | (with_reducible first | exact HB.out | apply below_alloc | apply pw_below_drewN | apply below_drew1 | refine below_set ?_ (IsS82.ge HI0.out) | refine below_set ?_ GE127.out | refine below_set ?_ GE131.out) | exact HB.out)) HL.out hb)
       have n4_ := Aside0.mk (KeepBut.trans (by repeat (first | (with_reducible first | exact HK.out | apply KeepBut.set_ | apply keep_drewN | apply keep_drew | apply keep_alloc | refine keep_far ?_ GW127.out _ | refine keep_far ?_ GW131.out _) | exact HK.out)) (KeepBut.of_grown hg g) (Kd.S_base2 HO_132000.out))
       have n5_ := Aside0.mk (ho)
       clear BK127
       clear BK131
       clear HI0
       clear HB
       clear HK
       clear HO_132000
       clear HO163
       have BK127 := n0_
       have BK131 := n1_
       have HI0 := n2_
       have HB := n3_
       have HK := n4_
       have HO168 := n5_
       clear n0_ n1_ n2_ n3_ n4_ n5_
       clear ho hb hg hat
       obtain ⟨Ao52, co52, eo52⟩ := Kd.S_slice HO168.out
       (first | subst eo52 | (injection eo52 with f1_ f2_ f3_; have f4_ := f1_.symm; have f5_ := f3_.symm; clear f1_ f2_ f3_; subst f4_; subst f5_))
       refine hK.out _ _ (zc0 BK131 0 rfl) (fun hHeld => ?_)
       clear hK K
       refine norm_ (a' := ?_) ?_ ?_
       rotate_left
       ·show Act.put _ (some 41) _ = _
        simp only [Act.put, zp1, zp2, zp3, i64_w, i32_w]
        rfl
       refine pure_ (i := 6) (N := some 42) (v := ?_) (a' := ?_) #[zT, zT, zT, zT, zT, zT, zT, zF] rfl rfl (any_of HT_.out (by kernel_rfl)) (fun _ _ _ h => h) (Or.inl ⟨by rfl, ?_⟩) ?_ ?_
       rotate_left
       ·intro w'
        go_simp
        with_reducible rfl
       rotate_left
       ·simp only [Act.put, zp1, zp2, zp3, i64_w, i32_w]
        rfl
       refine last_ (i := 7) (N := none) #[zT, zT, zT, zT, zT, zT, zT, zT] rfl rfl (one_of HT_.out (by kernel_rfl)) (by decide) (fun K hK => ?_)
       have hs53 : w50.cell? ⟨gb131, 0, none⟩ = some (u132000) := zc0 BK131 0 rfl
       have hfs53 := blk_frozen BK131.out 0
       have hns53_0 := NB127_131.out
       have hms53_0 := NB131_127.out
       refine skip_ (w1 := ?_) (by rfl) rfl ?_ ?_
       rotate_left
       ·go_simp
        rfl
       refine hK.out _ _ ?_
       clear hK K
       refine done_ (done_of HT_.out (by kernel_rfl)) ?_
       have hnb54 := NB131_127.out
       have hnc54 := NB127_131.out
       have hnb55 := NB131_0.out
       have hnc55 := NB0_131.out
       have hcz56_0 := zc0 BK131 0 rfl
       have hfz56_0 := blk_frozen BK131.out 0
       have hnb57 := NB127_0.out
       have hnc57 := NB0_127.out
       have hcz58_0 := zc0 BK127 0 rfl
       have hfz58_0 := blk_frozen BK127.out 0
       try go_wp2
       refine bodyPost_ret (results_cell_row rfl _ _ gb127 32 #[.slice Ao52 y166.length co52] (0, 0) _ rfl (by (with_reducible repeat (first | refine blk_drewN ?_ _ | refine blk_drew ?_ | refine blk_alloc ?_ _)); refine blk_put (cs := #[.slice none 0 0]) ?_ 0 _ rfl; refine blk_far ?_ NB127_131.out _; (with_reducible repeat (first | refine blk_drewN ?_ _ | refine blk_drew ?_ | refine blk_alloc ?_ _)); exact BK127.out) Try.underlying32 rfl (by kernel_rfl)) rfl ?_
       exact ⟨_, by first | rfl | (simp <;> rfl) | (simp [*] <;> rfl), by (with_reducible repeat (first | apply Kd.S_alloc | apply Kd.S_drewN | apply Kd.S_drew)); exact Kd.S_mono (Kd.S_far (p := ⟨gb127, 0, none⟩) (Kd.S_far (p := ⟨gb131, 0, none⟩) (Kd.S_types (Kd.S_types HO168.out BK131.out (by decide)) BK127.out (by decide)) (fun _ hk => hk.1.2) (.slice Ao52 y166.length co52)) (fun _ hk => hk.2) (.slice Ao52 y166.length co52)) (fun _ hk => trivial), by repeat (first | (with_reducible first | exact HI0.out | apply IsS82.alloc | apply IsS82.drewN | apply IsS82.drew | apply IsS82.set_1 | apply IsS82.set_2 | refine IsS82.far ?_ NB0_127.out _ | refine IsS82.far ?_ NB0_131.out _) | exact HI0.out), by repeat (first | (with_reducible first | exact HB.out | apply below_alloc | apply pw_below_drewN | apply below_drew1 | refine below_set ?_ (IsS82.ge HI0.out) | refine below_set ?_ GE127.out | refine below_set ?_ GE131.out) | exact HB.out), by repeat (first | (with_reducible first | exact HK.out | apply KeepBut.set_ | apply keep_drewN | apply keep_drew | apply keep_alloc | refine keep_far ?_ GW127.out _ | refine keep_far ?_ GW131.out _) | exact HK.out)⟩
      ·rw [if_neg c46] at H
       exact absurd H (by simp)
     ·rw [if_neg c44] at H
      have c44b0 : (t152 == 1) = false := beq_eq_false_iff_ne.mpr c44
      have c44b1 : (t152 != 1) = true := bne_iff_ne.mpr c44
      by_cases c59 : t152 = 2
      ·rw [if_pos c59] at H
       have c59b0 : (t152 == 2) = true := beq_iff_eq.mpr c59
       have c59b1 : (t152 != 2) = false := bne_eq_false_iff_eq.mpr c59
       clear c59
       have H' := Aside0.mk H
       clear H
       go_wp2_with (first | ((with_reducible refine gate_callee (f := 56) rfl ?_); refine goesL_ (some 25) rfl rfl Try.func56 (by kernel_rfl) rfl #[.pointer (some ⟨g, 0, none⟩), .int .i64 50] rfl (by (try simp only [zq1, zq2, zq3]); first | done | rfl | (simp only [List.length_drop, List.length_take]; rfl)) ?_; (with_reducible refine (spec_l1Cur_pick.calls g s0_0 x1001_1 x1002_1 50 t152 t153 t154 w0 _ ?side1 ?side2 A29.out).mono ?_); (case side1 => repeat (first | (with_reducible first | exact HI0.out | apply IsS82.alloc | apply IsS82.drewN | apply IsS82.drew | apply IsS82.set_1 | apply IsS82.set_2 | refine IsS82.far ?_ NB0_127.out _ | refine IsS82.far ?_ NB0_131.out _) | exact HI0.out)); (case side2 => repeat (first | (with_reducible first | exact HB.out | apply below_alloc | apply pw_below_drewN | apply below_drew1 | refine below_set ?_ (IsS82.ge HI0.out) | refine below_set ?_ GE127.out | refine below_set ?_ GE131.out) | exact HB.out)); rintro e w60 ⟨rfl, hi, hb, hk⟩; refine ⟨_, rfl, ?_⟩; replace HO_132000 := Aside0.mk (Kd.S_mono (Kd.S_keep (IsS82.apartS (show IsS82 w0 _ g s0_0 x1001_1 x1002_1 from by repeat (first | (with_reducible first | exact HI0.out | apply IsS82.alloc | apply IsS82.drewN | apply IsS82.drew | apply IsS82.set_1 | apply IsS82.set_2 | refine IsS82.far ?_ NB0_127.out _ | refine IsS82.far ?_ NB0_131.out _) | exact HI0.out)) (zs0 HO_132000) (by decide)) hk (fun _ h => h.2)) (fun _ h => h.1)); replace BK127 := Aside0.mk (KeepBut.blk hk (g' := gb127) (o := .cells #[.slice none 0 0] 32 (0, 0)) (zk0 BK127) NB127_0.out (by simp)); replace BK131 := Aside0.mk (KeepBut.blk hk (g' := gb131) (o := .cells #[u132000] 32 (0, 0)) (zk0 BK131) NB131_0.out (by simp)); replace HK := Aside0.mk (KeepBut.trans (by repeat (first | (with_reducible first | exact HK.out | apply KeepBut.set_ | apply keep_drewN | apply keep_drew | apply keep_alloc | refine keep_far ?_ GW127.out _ | refine keep_far ?_ GW131.out _) | exact HK.out)) hk (.inl rfl)); replace HB := Aside0.mk (hb); replace HI0 := Aside0.mk (hi); (try clear hb); (try clear hb2); (try clear hk); (try clear hi)))
       go_loopg [] k1 (fun kq w' => ∃ (x132000_2 : List (List Int)) (u132000 : Value), Aside0 (spec_l1Cur_memory.l1 kq s0_0 t153 t154 x132000_2 = some (r1, r2, r3)) ∧ Aside0 (kq ≤ k1) ∧ Aside0 (Kd.S (Kd.slice 5 (Kd.int .u8)) 43 w' w.heap.size (fun _ => True) u132000 x132000_2) ∧ Aside0 (w'.heap[gb127]? = some (.cells #[(.slice none 0 0)] 32 (0, 0))) ∧ Aside0 (w'.heap[gb131]? = some (.cells #[u132000] 32 (0, 0))) ∧ Aside0 (IsS82 w0 w' g s0_0 t153 t154) ∧ Aside0 (KeepBut w w' g none) ∧ Aside0 (Below w0.heap.size w0 w'))
       case atStart => exact ⟨(x132000_1), (u132000), H', ⟨Nat.le_refl _⟩, ⟨zs0 HO_132000⟩, ⟨zk0 BK127⟩, ⟨zk0 BK131⟩, ⟨by repeat (first | (with_reducible first | exact HI0.out | apply IsS82.alloc | apply IsS82.drewN | apply IsS82.drew | apply IsS82.set_1 | apply IsS82.set_2 | refine IsS82.far ?_ NB0_127.out _ | refine IsS82.far ?_ NB0_131.out _) | exact HI0.out)⟩, ⟨by repeat (first | (with_reducible first | exact HK.out | apply KeepBut.set_ | apply keep_drewN | apply keep_drew | apply keep_alloc | refine keep_far ?_ GW127.out _ | refine keep_far ?_ GW131.out _) | exact HK.out)⟩, ⟨by repeat (first | (with_reducible first | exact HB.out | apply below_alloc | apply pw_below_drewN | apply below_drew1 | refine below_set ?_ (IsS82.ge HI0.out) | refine below_set ?_ GE127.out | refine below_set ?_ GE131.out) | exact HB.out)⟩⟩
       case round =>
        clear H'
        try clear c1
        try clear p2
        try clear c3
        try clear c4
        try clear c5
        try clear p6
        try clear c8
        try clear c9
        try clear c15
        try clear c15b0
        try clear c18
        try clear c30
        try clear c30b0
        try clear c30b1
        try clear c31
        try clear c33
        try clear c34
        try clear c42
        try clear c44
        try clear c44b0
        try clear c44b1
        try clear c46
        try clear c52
        try clear c54
        try clear c55
        try clear c56
        try clear c57
        try clear c59
        try clear c59b0
        try clear c59b1
        try clear hcz10_0
        try clear hcz35_0
        try clear hcz41_0
        try clear hcz43_0
        try clear hcz56_0
        try clear hcz58_0
        try clear hfz10_0
        try clear hfz35_0
        try clear hfz41_0
        try clear hfz43_0
        try clear hfz56_0
        try clear hfz58_0
        try clear p2
        obtain ⟨x132000_2, u132000, HA, HK2, HO_132000, BK127, BK131, HI0, HK, HB⟩ := hrel
        cases gk with
        | zero => exact absurd HA.out (by simp [spec_l1Cur_memory.l1])
        | succ k2 =>
         have H := HA.out
         clear HA
         simp only [spec_l1Cur_memory.l1] at H
         by_cases c61 : (x132000_2.length : Int) < 17
         ·rw [if_pos c61] at H
          have c61b0 : decide ((x132000_2.length : Int) < 17) = true := decide_eq_true c61
          have c61b1 : decide (x132000_2.length < 17) = true := decide_eq_true (by omega)
          clear c61
          obtain ⟨y169, hy169⟩ : ∃ y_ : List Int, y_ = (([1] : List Int)) := ⟨_, rfl⟩
          replace H : (if x132000_2.length < 5864062014805 then (spec_l1Cur_memory.l1 k2 s0_0 t153 t154 (x132000_2 ++ [y169])) else (none)) = some (r1, r2, r3) := by first | (rw [hy169]; with_reducible exact H) | (have H2_ := (Option.bind_some _ _).symm.trans H; rw [hy169]; with_reducible exact H2_) | (have H2_ := (Option.bind_some _ _).symm.trans H; with_reducible exact H2_) | with_reducible exact H | (rw [hy169]; exact H) | exact H
          have Ny169 := Aside0.mk hy169
          clear hy169
          by_cases c62 : x132000_2.length < 5864062014805
          ·rw [if_pos c62] at H
           have LMc62 := Aside0.mk c62
           clear c62
           obtain ⟨y172, hy172⟩ : ∃ y_ : List (List Int), y_ = (x132000_2 ++ [y169]) := ⟨_, rfl⟩
           replace H : (spec_l1Cur_memory.l1 k2 s0_0 t153 t154 y172) = some (r1, r2, r3) := by first | (rw [hy172]; with_reducible exact H) | (have H2_ := (Option.bind_some _ _).symm.trans H; rw [hy172]; with_reducible exact H2_) | (have H2_ := (Option.bind_some _ _).symm.trans H; with_reducible exact H2_) | with_reducible exact H | (rw [hy172]; exact H) | exact H
           have Ny172 := Aside0.mk hy172
           clear hy172
           have H' := Aside0.mk H
           clear H
           have hnb63 := NB131_127.out
           have hnc63 := NB127_131.out
           have hnb64 := NB131_0.out
           have hnc64 := NB0_131.out
           have hcz65_0 := zc0 BK131 0 rfl
           have hfz65_0 := blk_frozen BK131.out 0
           obtain ⟨Ao66, co66, eo66⟩ := Kd.S_slice HO_132000.out
           subst eo66
           go_wp2_with (first | ((with_reducible refine gate_dst (N := 51) rfl ?_); refine Kd.R_lit (Kd.int .u8) _ 5 ?hg (N := 51) ?hd (xs := ([1] : List Int)) (inner := [.int .u8 1]) (ok := fun _ => True) (okp := fun _ => True) ?hr ?hp (fun _ hk => hk) trivial (Below.refl _ _) (Nat.le_refl _) (by simp) ?_; (case hd => rfl); (case hg => rfl); (case hr => first | (go_simp; done) | (go_simp; rfl)); (case hp => exact (Reps.one (show Kd.M (Kd.int .u8) _ _ _ 1 [.int .u8 1] from rfl) (Reps.none _ _))); intro v170 w67 ho68 hb hg_ hnew_; clear hg_ hnew_; (first | rw [← Ny169.out] at ho68 | (simp only [Int.reduceToNat] at ho68; rw [← Ny169.out] at ho68)); have n0_ := Aside0.mk (Kd.S_elder' (zs0 HO_132000) (Kd.R_base ho68) hb); have n1_ := Aside0.mk (Kd.R_lower ho68 (keep_size (w := w) (g := g) (row := none) (by repeat (first | (with_reducible first | exact HK.out | apply KeepBut.set_ | apply keep_drewN | apply keep_drew | apply keep_alloc | refine keep_far ?_ GW127.out _ | refine keep_far ?_ GW131.out _) | exact HK.out)))); have n2_ := zb0 BK127 hb; have n3_ := zb0 BK131 hb; have n4_ := Aside0.mk (IsS82.below (by repeat (first | (with_reducible first | exact HI0.out | apply IsS82.alloc | apply IsS82.drewN | apply IsS82.drew | apply IsS82.set_1 | apply IsS82.set_2 | refine IsS82.far ?_ NB0_127.out _ | refine IsS82.far ?_ NB0_131.out _) | exact HI0.out)) hb); have n5_ := Aside0.mk (KeepBut.trans (by repeat (first | (with_reducible first | exact HK.out | apply KeepBut.set_ | apply keep_drewN | apply keep_drew | apply keep_alloc | refine keep_far ?_ GW127.out _ | refine keep_far ?_ GW131.out _) | exact HK.out)) (KeepBut.of_below hb g none) (.inl rfl)); have n6_ := Aside0.mk (below_step (by repeat (first | (with_reducible first | exact HB.out | apply below_alloc | apply pw_below_drewN | apply below_drew1 | refine below_set ?_ (IsS82.ge HI0.out) | refine below_set ?_ GE127.out | refine below_set ?_ GE131.out) | exact HB.out)) hb); clear HO_132000; clear BK127; clear BK131; clear HI0; clear HK; clear HB; have HO_132000 := n0_; have HO171 := n1_; have BK127 := n2_; have BK131 := n3_; have HI0 := n4_; have HK := n5_; have HB := n6_; clear n0_ n1_ n2_ n3_ n4_ n5_ n6_; clear hb ho68; obtain ⟨Ao70, co70, eo70⟩ := Kd.R_slice HO171.out; subst eo70) | ((with_reducible refine gate_builtin (b := .append) (xs := #[.tmp 50, .tmp 52]) rfl ?_); at_builtin; refine Kd.S_append (Kd.slice 5 (Kd.int .u8)) w.heap.size rfl (.tmp 50) (.tmp 52) 22 43 (.slice none 0 0) 24 rfl Try.underlying22 info43 rfl (by decide) (by omega) (.slice Ao66 x132000_2.length co66) x132000_2 y169 [.slice Ao70 y169.length co70] (fun _ => True) (fun k_ => some k_ = (.slice Ao70 y169.length co70 : Value).ownBlock) rfl rfl ?aP (fun k_ hk_ => ((Kd.R_mono (ok' := fun k_ => ((fun _ => True)) k_ ∧ some k_ ≠ (.slice Ao66 x132000_2.length co66 : Value).ownBlock) (Kd.R_apart' (HO171.out) (Kd.S_typed HO_132000.out) (by decide)) (fun k_ hk => ⟨trivial, hk.2⟩))).1 k_ hk_.symm) ?aF ?aO (Below.refl _ _) ?aS ?aL ?_; (case aP => exact Kd.M_row (Kd.R_mono (Kd.R_tight rfl (Kd.R_mono (ok' := fun k_ => ((fun _ => True)) k_ ∧ some k_ ≠ (.slice Ao66 x132000_2.length co66 : Value).ownBlock) (Kd.R_apart' (HO171.out) (Kd.S_typed HO_132000.out) (by decide)) (fun k_ hk => ⟨trivial, hk.2⟩))) (fun _ h_ => h_))); (case aF => exact (fun _ _ => trivial)); (case aO => exact (by (with_reducible repeat (first | apply Kd.S_alloc | apply Kd.S_drewN | apply Kd.S_drew)); exact Kd.S_mono HO_132000.out (fun k_ hk => ⟨trivial, fun e_ => hk.2 e_⟩))); (case aS => exact (keep_size (w := w) (g := g) (row := none) (by repeat (first | (with_reducible first | exact HK.out | apply KeepBut.set_ | apply keep_drewN | apply keep_drew | apply keep_alloc | refine keep_far ?_ GW127.out _ | refine keep_far ?_ GW131.out _) | exact HK.out)))); (case aL => have := LMc62.out; omega); intro v173 w69 ho hb hg hat; rw [← Ny172.out] at ho; have n0_ := Aside0.mk (blk_grown (g := gb127) (o := .cells #[.slice none 0 0] 32 (0, 0)) (zk0 BK127) hg (Kd.S_ne HO_132000.out BK127.out (by decide))); have n1_ := Aside0.mk (blk_grown (g := gb131) (o := .cells #[.slice Ao66 x132000_2.length co66] 32 (0, 0)) (zk0 BK131) hg (Kd.S_ne HO_132000.out BK131.out (by decide))); have n2_ := Aside0.mk (IsS82.grown (by repeat (first | (with_reducible first | exact HI0.out | apply IsS82.alloc | apply IsS82.drewN | apply IsS82.drew | apply IsS82.set_1 | apply IsS82.set_2 | refine IsS82.far ?_ NB0_127.out _ | refine IsS82.far ?_ NB0_131.out _) | exact HI0.out)) hg (IsS82.own_neS HI0.out HO_132000.out (by decide))); have n3_ := Aside0.mk (below_weaken (by repeat (first | (with_reducible first | exact HB.out | apply below_alloc | apply pw_below_drewN | apply below_drew1 | refine below_set ?_ (IsS82.ge HI0.out) | refine below_set ?_ GE127.out | refine below_set ?_ GE131.out) | exact HB.out)) HL.out hb); have n4_ := Aside0.mk (KeepBut.trans (by repeat (first | (with_reducible first | exact HK.out | apply KeepBut.set_ | apply keep_drewN | apply keep_drew | apply keep_alloc | refine keep_far ?_ GW127.out _ | refine keep_far ?_ GW131.out _) | exact HK.out)) (KeepBut.of_grown hg g) (Kd.S_base2 HO_132000.out)); have n5_ := Aside0.mk (ho); clear BK127; clear BK131; clear HI0; clear HB; clear HK; clear HO_132000; clear HO171; have BK127 := n0_; have BK131 := n1_; have HI0 := n2_; have HB := n3_; have HK := n4_; have HO174 := n5_; clear n0_ n1_ n2_ n3_ n4_ n5_; clear ho hb hg hat; obtain ⟨Ao71, co71, eo71⟩ := Kd.S_slice HO174.out; subst eo71; have hcz72_0 := zc0 BK131 0 rfl; have hfz72_0 := blk_frozen BK131.out 0))
           go_roundg k2
           case measure => have := HK1.out; have := HK2.out; omega
           case rel => exact ⟨(y172), (.slice Ao71 y172.length co71), H', ⟨by have := HK1.out; have := HK2.out; omega⟩, ⟨by (with_reducible repeat (first | apply Kd.S_alloc | apply Kd.S_drewN | apply Kd.S_drew)); exact Kd.S_mono (Kd.S_far (p := ⟨gb131, 0, none⟩) (Kd.S_types HO174.out BK131.out (by decide)) (fun _ hk => hk.2) (.slice Ao71 y172.length co71)) (fun _ hk => trivial)⟩, ⟨by (with_reducible repeat (first | refine blk_drewN ?_ _ | refine blk_drew ?_ | refine blk_alloc ?_ _)); refine blk_far ?_ NB127_131.out _; (with_reducible repeat (first | refine blk_drewN ?_ _ | refine blk_drew ?_ | refine blk_alloc ?_ _)); exact BK127.out⟩, ⟨by (with_reducible repeat (first | refine blk_drewN ?_ _ | refine blk_drew ?_ | refine blk_alloc ?_ _)); refine blk_put (cs := #[.slice Ao66 x132000_2.length co66]) ?_ 0 _ rfl; (with_reducible repeat (first | refine blk_drewN ?_ _ | refine blk_drew ?_ | refine blk_alloc ?_ _)); exact BK131.out⟩, ⟨by repeat (first | (with_reducible first | exact HI0.out | apply IsS82.alloc | apply IsS82.drewN | apply IsS82.drew | apply IsS82.set_1 | apply IsS82.set_2 | refine IsS82.far ?_ NB0_127.out _ | refine IsS82.far ?_ NB0_131.out _) | exact HI0.out)⟩, ⟨by repeat (first | (with_reducible first | exact HK.out | apply KeepBut.set_ | apply keep_drewN | apply keep_drew | apply keep_alloc | refine keep_far ?_ GW127.out _ | refine keep_far ?_ GW131.out _) | exact HK.out)⟩, ⟨by repeat (first | (with_reducible first | exact HB.out | apply below_alloc | apply pw_below_drewN | apply below_drew1 | refine below_set ?_ (IsS82.ge HI0.out) | refine below_set ?_ GE127.out | refine below_set ?_ GE131.out) | exact HB.out)⟩⟩
          ·rw [if_neg c62] at H
           exact absurd H (by simp)
         ·rw [if_neg c61] at H
          have c61b0 : decide ((x132000_2.length : Int) < 17) = false := decide_eq_false c61
          have c61b1 : decide (x132000_2.length < 17) = false := decide_eq_false (by omega)
          clear c61
          simp only [Option.some.injEq, Prod.mk.injEq] at H
          obtain ⟨rfl, rfl, rfl⟩ := H
          have hnb73 := NB131_127.out
          have hnc73 := NB127_131.out
          have hnb74 := NB131_0.out
          have hnc74 := NB0_131.out
          have hcz75_0 := zc0 BK131 0 rfl
          have hfz75_0 := blk_frozen BK131.out 0
          obtain ⟨Ao76, co76, eo76⟩ := Kd.S_slice HO_132000.out
          subst eo76
          have hnb77 := NB127_0.out
          have hnc77 := NB0_127.out
          have hcz78_0 := zc0 BK127 0 rfl
          have hfz78_0 := blk_frozen BK127.out 0
          go_wp2
          refine bodyPost_ret (results_cell_row rfl _ _ gb127 32 #[.slice Ao76 x132000_2.length co76] (0, 0) _ rfl (by (with_reducible repeat (first | refine blk_drewN ?_ _ | refine blk_drew ?_ | refine blk_alloc ?_ _)); refine blk_put (cs := #[.slice none 0 0]) ?_ 0 _ rfl; (with_reducible repeat (first | refine blk_drewN ?_ _ | refine blk_drew ?_ | refine blk_alloc ?_ _)); exact BK127.out) Try.underlying32 rfl (by kernel_rfl)) rfl ?_
          exact ⟨_, by first | rfl | (simp <;> rfl) | (simp [*] <;> rfl), by (with_reducible repeat (first | apply Kd.S_alloc | apply Kd.S_drewN | apply Kd.S_drew)); exact Kd.S_mono (Kd.S_far (p := ⟨gb127, 0, none⟩) (Kd.S_types HO_132000.out BK127.out (by decide)) (fun _ hk => hk.2) (.slice Ao76 x132000_2.length co76)) (fun _ hk => trivial), by repeat (first | (with_reducible first | exact HI0.out | apply IsS82.alloc | apply IsS82.drewN | apply IsS82.drew | apply IsS82.set_1 | apply IsS82.set_2 | refine IsS82.far ?_ NB0_127.out _ | refine IsS82.far ?_ NB0_131.out _) | exact HI0.out), by repeat (first | (with_reducible first | exact HB.out | apply below_alloc | apply pw_below_drewN | apply below_drew1 | refine below_set ?_ (IsS82.ge HI0.out) | refine below_set ?_ GE127.out | refine below_set ?_ GE131.out) | exact HB.out), by repeat (first | (with_reducible first | exact HK.out | apply KeepBut.set_ | apply keep_drewN | apply keep_drew | apply keep_alloc | refine keep_far ?_ GW127.out _ | refine keep_far ?_ GW131.out _) | exact HK.out)⟩
      ·rw [if_neg c59] at H
       have c59b0 : (t152 == 2) = false := beq_eq_false_iff_ne.mpr c59
       have c59b1 : (t152 != 2) = true := bne_iff_ne.mpr c59
       simp only [Option.some.injEq, Prod.mk.injEq] at H
       obtain ⟨rfl, rfl, rfl⟩ := H
       go_wp2_with (first | ((with_reducible refine gate_callee (f := 56) rfl ?_); refine goesL_ (some 25) rfl rfl Try.func56 (by kernel_rfl) rfl #[.pointer (some ⟨g, 0, none⟩), .int .i64 50] rfl (by (try simp only [zq1, zq2, zq3]); first | done | rfl | (simp only [List.length_drop, List.length_take]; rfl)) ?_; (with_reducible refine (spec_l1Cur_pick.calls g s0_0 x1001_1 x1002_1 50 t152 t153 t154 w0 _ ?side1 ?side2 A29.out).mono ?_); (case side1 => repeat (first | (with_reducible first | exact HI0.out | apply IsS82.alloc | apply IsS82.drewN | apply IsS82.drew | apply IsS82.set_1 | apply IsS82.set_2 | refine IsS82.far ?_ NB0_127.out _ | refine IsS82.far ?_ NB0_131.out _) | exact HI0.out)); (case side2 => repeat (first | (with_reducible first | exact HB.out | apply below_alloc | apply pw_below_drewN | apply below_drew1 | refine below_set ?_ (IsS82.ge HI0.out) | refine below_set ?_ GE127.out | refine below_set ?_ GE131.out) | exact HB.out)); rintro e w79 ⟨rfl, hi, hb, hk⟩; refine ⟨_, rfl, ?_⟩; replace HO_132000 := Aside0.mk (Kd.S_mono (Kd.S_keep (IsS82.apartS (show IsS82 w0 _ g s0_0 x1001_1 x1002_1 from by repeat (first | (with_reducible first | exact HI0.out | apply IsS82.alloc | apply IsS82.drewN | apply IsS82.drew | apply IsS82.set_1 | apply IsS82.set_2 | refine IsS82.far ?_ NB0_127.out _ | refine IsS82.far ?_ NB0_131.out _) | exact HI0.out)) (zs0 HO_132000) (by decide)) hk (fun _ h => h.2)) (fun _ h => h.1)); replace BK127 := Aside0.mk (KeepBut.blk hk (g' := gb127) (o := .cells #[.slice none 0 0] 32 (0, 0)) (zk0 BK127) NB127_0.out (by simp)); replace BK131 := Aside0.mk (KeepBut.blk hk (g' := gb131) (o := .cells #[u132000] 32 (0, 0)) (zk0 BK131) NB131_0.out (by simp)); replace HK := Aside0.mk (KeepBut.trans (by repeat (first | (with_reducible first | exact HK.out | apply KeepBut.set_ | apply keep_drewN | apply keep_drew | apply keep_alloc | refine keep_far ?_ GW127.out _ | refine keep_far ?_ GW131.out _) | exact HK.out)) hk (.inl rfl)); replace HB := Aside0.mk (hb); replace HI0 := Aside0.mk (hi); (try clear hb); (try clear hb2); (try clear hk); (try clear hi); have hnb80 := NB131_127.out; have hnc80 := NB127_131.out; have hnb81 := NB131_0.out; have hnc81 := NB0_131.out; have hcz82_0 := zc0 BK131 0 rfl; have hfz82_0 := blk_frozen BK131.out 0; obtain ⟨Ao83, co83, eo83⟩ := Kd.S_slice HO_132000.out; subst eo83; have hnb84 := NB127_0.out; have hnc84 := NB0_127.out; have hcz85_0 := zc0 BK127 0 rfl; have hfz85_0 := blk_frozen BK127.out 0))
       refine bodyPost_ret (results_cell_row rfl _ _ gb127 32 #[.slice Ao83 x132000_1.length co83] (0, 0) _ rfl (by (with_reducible repeat (first | refine blk_drewN ?_ _ | refine blk_drew ?_ | refine blk_alloc ?_ _)); refine blk_put (cs := #[.slice none 0 0]) ?_ 0 _ rfl; (with_reducible repeat (first | refine blk_drewN ?_ _ | refine blk_drew ?_ | refine blk_alloc ?_ _)); exact BK127.out) Try.underlying32 rfl (by kernel_rfl)) rfl ?_
       exact ⟨_, by first | rfl | (simp <;> rfl) | (simp [*] <;> rfl), by (with_reducible repeat (first | apply Kd.S_alloc | apply Kd.S_drewN | apply Kd.S_drew)); exact Kd.S_mono (Kd.S_far (p := ⟨gb127, 0, none⟩) (Kd.S_types HO_132000.out BK127.out (by decide)) (fun _ hk => hk.2) (.slice Ao83 x132000_1.length co83)) (fun _ hk => trivial), by repeat (first | (with_reducible first | exact HI0.out | apply IsS82.alloc | apply IsS82.drewN | apply IsS82.drew | apply IsS82.set_1 | apply IsS82.set_2 | refine IsS82.far ?_ NB0_127.out _ | refine IsS82.far ?_ NB0_131.out _) | exact HI0.out), by repeat (first | (with_reducible first | exact HB.out | apply below_alloc | apply pw_below_drewN | apply below_drew1 | refine below_set ?_ (IsS82.ge HI0.out) | refine below_set ?_ GE127.out | refine below_set ?_ GE131.out) | exact HB.out), by repeat (first | (with_reducible first | exact HK.out | apply KeepBut.set_ | apply keep_drewN | apply keep_drew | apply keep_alloc | refine keep_far ?_ GW127.out _ | refine keep_far ?_ GW131.out _) | exact HK.out)⟩

open Go.Proofs.Ytkifenbcepicjaa.Cp
/-! ### spec_l1In: function 77 -/
def spec_l1In.f (a0 : Int) (a1 : Int) (a2 : Int) : Option (Bool) := if a0 ≥ a1 then (some (decide (a0 ≤ a2))) else (some false)
set_option maxHeartbeats 8000000 in
set_option maxRecDepth 100000 in
theorem spec_l1In.calls (a0 : Int) (a1 : Int) (a2 : Int) (r : Bool) (w : World) (h : spec_l1In.f a0 a1 a2 = some r) :
  Calls Try.prog 77 #[.int .i64 a0, .int .i64 a1, .int .i64 a2] w fun e w' => e = .returned (.bool r) ∧ Drawn0 w w' := by
 have H : (if a0 ≥ a1 then (some (decide (a0 ≤ a2))) else (some false)) = some r := h
 clear h
 by_cases c4 : a0 ≥ a1
 ·rw [if_pos c4] at H
  have c4b0 : decide (a1 ≤ a0) = true := decide_eq_true c4
  clear c4
  obtain rfl := Option.some.inj H
  go_enter Try.func77, Try.ntmps77
  go_wp2
  go_ret
  exact ⟨by first | rfl | (simp; done) | (simp [*]; done), by repeat (first | exact Drawn0.refl _ | apply Drawn0.step)⟩
 ·rw [if_neg c4] at H
  have c4b0 : decide (a1 ≤ a0) = false := decide_eq_false c4
  clear c4
  obtain rfl := Option.some.inj H
  go_enter Try.func77, Try.ntmps77
  go_wp2
  go_ret
  exact ⟨by first | rfl | (simp; done) | (simp [*]; done), by repeat (first | exact Drawn0.refl _ | apply Drawn0.step)⟩

open Go.Proofs.Ytkifenbcepicjaa.Cp
/-! ### spec_l2Memory: function 53 -/
mutual
def spec_l2Memory.l0 : Nat → Int → List (List Int) → Option (Bool)
 | 0, _, _ => none
 | k + 1, x3, x176000 => if x3 < (x176000.length : Int) then (spec_l2Memory.j1 k x3 (decide (x3 ≤ 16)) x176000) else (spec_l2Memory.j1 k x3 false x176000)
def spec_l2Memory.j1 : Nat → Int → Bool → List (List Int) → Option (Bool)
 | 0, _, _, _ => none
 | k + 1, x3, x12, x176000 => if x12 = true then (if 0 ≤ x3 then (if x3 < (x176000.length : Int) then ((spec_l1In.f ((rd_L2 x176000 x3).length : Int) 1 64).bind fun t177 => (if t177 = true then (spec_l2Memory.l0 k (wrap64 (x3 + 1)) x176000) else (some false))) else (none)) else (none)) else (some (decide ((x176000.length : Int) ≤ 16)))
end
def spec_l2Memory.f (k : Nat) (l0_0 : List (List Int)) : Option (Bool) := spec_l2Memory.l0 k 0 l0_0
theorem spec_l2Memory.mono_l : ∀ k, (∀ y0 y1, LeO (spec_l2Memory.l0 k y0 y1) (spec_l2Memory.l0 (k + 1) y0 y1)) ∧ (∀ y0 y1 y2, LeO (spec_l2Memory.j1 k y0 y1 y2) (spec_l2Memory.j1 (k + 1) y0 y1 y2))
 | 0 => ⟨fun _ _ r h => by simp [spec_l2Memory.l0] at h, fun _ _ _ r h => by simp [spec_l2Memory.j1] at h⟩
 | k + 1 => by
  obtain ⟨ih0, ih1⟩ := spec_l2Memory.mono_l k
  refine ⟨?_, ?_⟩
  ·intro y0 y1
   unfold spec_l2Memory.l0
   repeat' first
   | (with_reducible exact ih0 _ _)
   | (with_reducible exact ih1 _ _ _)
   | (with_reducible exact LeO.refl _)
   | (with_reducible exact LeO.none _)
   | (with_reducible refine LeO.ite ?_ ?_)
   | (with_reducible refine LeO.bind ?_ (fun _ => ?_))
   | exact ih0 _ _
   | exact ih1 _ _ _
   | exact LeO.none _
   | refine LeO.ite ?_ ?_
   | refine LeO.bind ?_ (fun _ => ?_)
  ·intro y0 y1 y2
   unfold spec_l2Memory.j1
   repeat' first
   | (with_reducible exact ih0 _ _)
   | (with_reducible exact ih1 _ _ _)
   | (with_reducible exact LeO.refl _)
   | (with_reducible exact LeO.none _)
   | (with_reducible refine LeO.ite ?_ ?_)
   | (with_reducible refine LeO.bind ?_ (fun _ => ?_))
   | exact ih0 _ _
   | exact ih1 _ _ _
   | exact LeO.none _
   | refine LeO.ite ?_ ?_
   | refine LeO.bind ?_ (fun _ => ?_)
theorem spec_l2Memory.mono : ∀ a0 k, LeO (spec_l2Memory.f k a0) (spec_l2Memory.f (k + 1) a0) := by
 intro a0 k
 obtain ⟨ih0, ih1⟩ := spec_l2Memory.mono_l k
 unfold spec_l2Memory.f
 repeat' first
   | (with_reducible exact ih0 _ _)
   | (with_reducible exact ih1 _ _ _)
   | (with_reducible exact LeO.refl _)
   | (with_reducible exact LeO.none _)
   | (with_reducible refine LeO.ite ?_ ?_)
   | (with_reducible refine LeO.bind ?_ (fun _ => ?_))
   | exact ih0 _ _
   | exact ih1 _ _ _
   | exact LeO.none _
   | refine LeO.ite ?_ ?_
   | refine LeO.bind ?_ (fun _ => ?_)
set_option maxHeartbeats 8000000 in
set_option maxRecDepth 100000 in
theorem spec_l2Memory.calls (k : Nat) (A0_0 : Option Addr) (c0_0 : Nat) (l0_0 : List (List Int)) (r : Bool) (w : World) (hr0_0 : Kd.C (Kd.slice 5 (Kd.int .u8)) w A0_0 l0_0.length l0_0) (hc0_0 : l0_0.length ≤ c0_0) (h : spec_l2Memory.f k l0_0 = some r) :
  Calls Try.prog 53 #[.agg #[.slice A0_0 l0_0.length c0_0]] w fun e w' => e = .returned (.bool r) ∧ Below w.heap.size w w' := by
 have hu32 := Try.underlying32
 have HR0_0 := Aside0.mk hr0_0
 have HC0_0 := Aside0.mk hc0_0
 clear hr0_0 hc0_0
 have HB := Aside0.mk (Below.refl w.heap.size w)
 have H : (spec_l2Memory.l0 k 0 l0_0) = some r := h
 clear h
 have H' := Aside0.mk H
 clear H
 go_enter Try.func53, Try.ntmps53
 go_wp2_with (first | ((with_reducible refine gate_dst (N := 1) rfl ?_); refine box_event ?hg (N := 1) ?hd (cs := #[.slice A0_0 l0_0.length c0_0]) (t := 32) ?hr ?_; (case hd => rfl); (case hg => rfl); (case hr => first | (go_simp; done) | (go_simp; rfl)); intro gb175 hg w2 hbox hb; have BK175 := Aside0.mk (hbox); have GW175 := zge HB hg; have GE175 := zge HB hg; replace HB := zhs HB hb; clear hb hbox hg))
 go_loopg [3] k (fun kq v3 w' => ∃ (x3_1 : Int), v3 = .int .i64 x3_1 ∧ Aside0 (spec_l2Memory.l0 kq x3_1 l0_0 = some r) ∧ Aside0 (kq ≤ k) ∧ Aside0 (w'.heap[gb175]? = some (.cells #[(.slice A0_0 l0_0.length c0_0)] 32 (0, 0))) ∧ Aside0 (Below w.heap.size w w'))
 case atStart => exact ⟨(0), (by first | rfl | (simp; done) | (simp [*]; done)), H', ⟨Nat.le_refl _⟩, ⟨zk0 BK175⟩, ⟨by repeat (first | exact zh0 HB | refine below_set ?_ GE175.out)⟩⟩
 case round =>
  clear H'
  try clear p2
  obtain ⟨x3_1, rfl, HA, HK1, BK175, HB⟩ := hrel
  cases gk with
  | zero => exact absurd HA.out (by simp [spec_l2Memory.l0])
  | succ k1 =>
   have H := HA.out
   clear HA
   simp only [spec_l2Memory.l0] at H
   have HC3 := Aside0.mk H
   clear H
   go_upto_region 2 with (fail)
   go_cut [12] (fun v12 wc => ∃ (kq : Nat) (x12_2 : Bool), v12 = .bool x12_2 ∧ Aside0 (spec_l2Memory.j1 kq x3_1 x12_2 l0_0 = some r) ∧ Aside0 (kq ≤ k1) ∧ Aside0 (wc.heap[gb175]? = some (.cells #[(.slice A0_0 l0_0.length c0_0)] 32 (0, 0))) ∧ Aside0 (Below w.heap.size w wc))
   case first =>
    have H := HC3.out
    clear HC3
    by_cases c4 : x3_1 < (l0_0.length : Int)
    ·rw [if_pos c4] at H
     have c4b0 : decide (x3_1 < (l0_0.length : Int)) = true := decide_eq_true c4
     clear c4
     (first | rw [c4b0] | (simp only [i64_w, i32_w]; rw [c4b0]) | skip)
     have H' := Aside0.mk H
     clear H
     have hcz5_0 := zc0 BK175 0 rfl
     have hfz5_0 := blk_frozen BK175.out 0
     go_wp2
     go_meet
     case rel => exact ⟨_, (decide (x3_1 ≤ 16)), (by first | rfl | (simp; done) | (simp [*]; done)), H', ⟨by have := HK1.out; first | omega | exact Nat.le_refl _⟩, ⟨zk0 BK175⟩, ⟨by repeat (first | exact zh0 HB | refine below_set ?_ GE175.out)⟩⟩
    ·rw [if_neg c4] at H
     have c4b0 : decide (x3_1 < (l0_0.length : Int)) = false := decide_eq_false c4
     clear c4
     (first | rw [c4b0] | (simp only [i64_w, i32_w]; rw [c4b0]) | skip)
     have H' := Aside0.mk H
     clear H
     have hcz6_0 := zc0 BK175 0 rfl
     have hfz6_0 := blk_frozen BK175.out 0
     go_wp2
     go_meet
     case rel => exact ⟨_, (false), (by first | rfl | (simp; done) | (simp [*]; done)), H', ⟨by have := HK1.out; first | omega | exact Nat.le_refl _⟩, ⟨zk0 BK175⟩, ⟨by repeat (first | exact zh0 HB | refine below_set ?_ GE175.out)⟩⟩
   case rest =>
    clear HC3
    try clear p2
    try clear c4
    try clear c4b0
    try clear c5
    try clear hcz5_0
    try clear hcz6_0
    try clear hfz5_0
    try clear hfz6_0
    try clear p2
    obtain ⟨kq, x12_2, rfl, HA, HJ2, BK175, HB⟩ := hcut
    cases kq with
    | zero => exact absurd HA.out (by simp [spec_l2Memory.j1])
    | succ kj2 =>
     have H := HA.out
     clear HA
     simp only [spec_l2Memory.j1] at H
     by_cases c7 : x12_2 = true
     ·subst c7
      have H1 : (if 0 ≤ x3_1 then (if x3_1 < (l0_0.length : Int) then ((spec_l1In.f ((rd_L2 l0_0 x3_1).length : Int) 1 64).bind fun t177 => (if t177 = true then (spec_l2Memory.l0 kj2 (wrap64 (x3_1 + 1)) l0_0) else (some false))) else (none)) else (none)) = some r := by rw [if_pos rfl] at H; exact H
      clear H
      have H := H1
      clear H1
      by_cases c8 : 0 ≤ x3_1
      ·rw [if_pos c8] at H
       have c8b0 : decide (0 ≤ x3_1) = true := decide_eq_true c8
       clear c8
       by_cases c9 : x3_1 < (l0_0.length : Int)
       ·rw [if_pos c9] at H
        have c9b0 : decide (x3_1 < (l0_0.length : Int)) = true := decide_eq_true c9
        clear c9
        replace H := Option.bind_eq_some_iff.mp H
        obtain ⟨t177, A100, H⟩ := H
        replace H : (if t177 = true then (spec_l2Memory.l0 kj2 (wrap64 (x3_1 + 1)) l0_0) else (some false)) = some r := H
        have A10 := Aside0.mk A100
        clear A100
        by_cases c11 : t177 = true
        ·subst c11
         have H1 : (spec_l2Memory.l0 kj2 (wrap64 (x3_1 + 1)) l0_0) = some r := by rw [if_pos rfl] at H; exact H
         clear H
         have H := H1
         clear H1
         have H' := Aside0.mk H
         clear H
         have hcz12_0 := zc0 BK175 0 rfl
         have hfz12_0 := blk_frozen BK175.out 0
         have p176 : 0 ≤ (x3_1 : Int) := of_decide_eq_true (by first | (with_reducible assumption) | assumption)
         have q176 : x3_1 < (l0_0.length : Int) := of_decide_eq_true (by first | (with_reducible assumption) | assumption)
         obtain ⟨ad176, A176_0, c176_0, e176, hx176_0, hl176_0, hi176_0⟩ := at_L2 HR0_0.out x3_1 p176 q176
         cases e176
         replace hx176_0 := (HB.out.cell (World.block_lt_of_cell? w _ hx176_0)).trans hx176_0
         have HR176_0 := Aside0.mk hi176_0
         have HC176_0 := Aside0.mk hl176_0
         clear hi176_0 hl176_0
         replace p176 := eq_true p176
         replace q176 := eq_true q176
         go_wp2_with (first | ((with_reducible refine gate_callee (f := 77) rfl ?_); refine goesL_ (some 21) rfl rfl Try.func77 (by kernel_rfl) rfl #[.int .i64 ((rd_L2 l0_0 x3_1).length : Int), .int .i64 1, .int .i64 64] rfl (by (try simp only [zq1, zq2, zq3]); first | done | rfl | (simp only [List.length_drop, List.length_take]; rfl)) ?_; (with_reducible refine (spec_l1In.calls ((rd_L2 l0_0 x3_1).length : Int) 1 64 true _ A10.out).mono ?_); rintro e w' ⟨rfl, ⟨nd, rfl⟩⟩; refine ⟨_, rfl, ?_⟩))
         go_roundg kj2
         case measure => have := HK1.out; have := HJ2.out; omega
         case rel => exact ⟨(wrap64 (x3_1 + 1)), (by first | rfl | (simp; done) | (simp [*]; done)), H', ⟨by have := HK1.out; have := HJ2.out; omega⟩, ⟨zk0 BK175⟩, ⟨by repeat (first | exact zh0 HB | refine below_set ?_ GE175.out)⟩⟩
        ·replace c11 := Bool.eq_false_iff.mpr c11
         subst c11
         have H1 : (some false) = some r := by rw [if_neg (show ¬ (false = true) by decide)] at H; exact H
         clear H
         have H := H1
         clear H1
         obtain rfl := Option.some.inj H
         have hcz13_0 := zc0 BK175 0 rfl
         have hfz13_0 := blk_frozen BK175.out 0
         have p176 : 0 ≤ (x3_1 : Int) := of_decide_eq_true (by first | (with_reducible assumption) | assumption)
         have q176 : x3_1 < (l0_0.length : Int) := of_decide_eq_true (by first | (with_reducible assumption) | assumption)
         obtain ⟨ad176, A176_0, c176_0, e176, hx176_0, hl176_0, hi176_0⟩ := at_L2 HR0_0.out x3_1 p176 q176
         cases e176
         replace hx176_0 := (HB.out.cell (World.block_lt_of_cell? w _ hx176_0)).trans hx176_0
         have HR176_0 := Aside0.mk hi176_0
         have HC176_0 := Aside0.mk hl176_0
         clear hi176_0 hl176_0
         replace p176 := eq_true p176
         replace q176 := eq_true q176
         go_wp2_with (first | ((with_reducible refine gate_callee (f := 77) rfl ?_); refine goesL_ (some 21) rfl rfl Try.func77 (by kernel_rfl) rfl #[.int .i64 ((rd_L2 l0_0 x3_1).length : Int), .int .i64 1, .int .i64 64] rfl (by (try simp only [zq1, zq2, zq3]); first | done | rfl | (simp only [List.length_drop, List.length_take]; rfl)) ?_; (with_reducible refine (spec_l1In.calls ((rd_L2 l0_0 x3_1).length : Int) 1 64 false _ A10.out).mono ?_); rintro e w' ⟨rfl, ⟨nd, rfl⟩⟩; refine ⟨_, rfl, ?_⟩))
         go_ret
         exact ⟨by first | rfl | (simp <;> rfl) | (simp [*] <;> rfl), by repeat (first | exact zh0 HB | refine below_set ?_ GE175.out)⟩
       ·rw [if_neg c9] at H
        exact absurd H (by simp)
      ·rw [if_neg c8] at H
       exact absurd H (by simp)
     ·replace c7 := Bool.eq_false_iff.mpr c7
      subst c7
      have H1 : (some (decide ((l0_0.length : Int) ≤ 16))) = some r := by rw [if_neg (show ¬ (false = true) by decide)] at H; exact H
      clear H
      have H := H1
      clear H1
      obtain rfl := Option.some.inj H
      have hcz14_0 := zc0 BK175 0 rfl
      have hfz14_0 := blk_frozen BK175.out 0
      go_wp2
      go_ret
      exact ⟨by first | rfl | (simp <;> rfl) | (simp [*] <;> rfl), by repeat (first | exact zh0 HB | refine below_set ?_ GE175.out)⟩

open Go.Proofs.Ytkifenbcepicjaa.Cp
/-! ### spec_l1Least: function 79 -/
def spec_l1Least.f (a0 : Int) (a1 : Int) : Option (Int) := if a0 < a1 then (some a0) else (some a1)
set_option maxHeartbeats 8000000 in
set_option maxRecDepth 100000 in
theorem spec_l1Least.calls (a0 : Int) (a1 : Int) (r : Int) (w : World) (h : spec_l1Least.f a0 a1 = some r) :
  Calls Try.prog 79 #[.int .i64 a0, .int .i64 a1] w fun e w' => e = .returned (.int .i64 r) ∧ Drawn0 w w' := by
 have H : (if a0 < a1 then (some a0) else (some a1)) = some r := h
 clear h
 by_cases c3 : a0 < a1
 ·rw [if_pos c3] at H
  have c3b0 : decide (a0 < a1) = true := decide_eq_true c3
  clear c3
  obtain rfl := Option.some.inj H
  go_enter Try.func79, Try.ntmps79
  go_wp2
  go_ret
  exact ⟨by first | rfl | (simp; done) | (simp [*]; done), by repeat (first | exact Drawn0.refl _ | apply Drawn0.step)⟩
 ·rw [if_neg c3] at H
  have c3b0 : decide (a0 < a1) = false := decide_eq_false c3
  clear c3
  obtain rfl := Option.some.inj H
  go_enter Try.func79, Try.ntmps79
  go_wp2
  go_ret
  exact ⟨by first | rfl | (simp; done) | (simp [*]; done), by repeat (first | exact Drawn0.refl _ | apply Drawn0.step)⟩

open Go.Proofs.Ytkifenbcepicjaa.Cp
/-! ### spec_l1Most: function 80 -/
def spec_l1Most.f (a0 : Int) (a1 : Int) : Option (Int) := if a0 > a1 then (some a0) else (some a1)
set_option maxHeartbeats 8000000 in
set_option maxRecDepth 100000 in
theorem spec_l1Most.calls (a0 : Int) (a1 : Int) (r : Int) (w : World) (h : spec_l1Most.f a0 a1 = some r) :
  Calls Try.prog 80 #[.int .i64 a0, .int .i64 a1] w fun e w' => e = .returned (.int .i64 r) ∧ Drawn0 w w' := by
 have H : (if a0 > a1 then (some a0) else (some a1)) = some r := h
 clear h
 by_cases c3 : a0 > a1
 ·rw [if_pos c3] at H
  have c3b0 : decide (a1 < a0) = true := decide_eq_true c3
  clear c3
  obtain rfl := Option.some.inj H
  go_enter Try.func80, Try.ntmps80
  go_wp2
  go_ret
  exact ⟨by first | rfl | (simp; done) | (simp [*]; done), by repeat (first | exact Drawn0.refl _ | apply Drawn0.step)⟩
 ·rw [if_neg c3] at H
  have c3b0 : decide (a1 < a0) = false := decide_eq_false c3
  clear c3
  obtain rfl := Option.some.inj H
  go_enter Try.func80, Try.ntmps80
  go_wp2
  go_ret
  exact ⟨by first | rfl | (simp; done) | (simp [*]; done), by repeat (first | exact Drawn0.refl _ | apply Drawn0.step)⟩

end Go.Proofs.Ytkifenbcepicjaa.PFnKeys
