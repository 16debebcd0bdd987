/- What is proved here: each Go function that is named below answers, and leaves memory, as the theorem of its name says; no condition beyond those that each theorem states. Laid by this session's own program (wip/driver.py) over the kit's print. -/
import Derived.Test.YtdojnaghcfhadaaPFnExactPopFrontx0
import Derived.Test.YtdojnaghcfhadaaPFnExactPopFrontx3
namespace Go.Proofs.Ytdojnaghcfhadaa.PFnExactPopFront
open Go.RowKit Go.Proofs.YtdojnaghcfhadaaW.PrintWords Go.Proofs.YtdojnaghcfhadaaW.PrintLast Go.Proofs.YtdojnaghcfhadaaW.PrintMore
attribute [local go_sem] max2_int min2_int max_two min_two max_three min_three max_four min_four   -- for this text's walks alone
set_option linter.unusedVariables false
set_option linter.unusedSimpArgs false

open Go.Proofs.Ytdojnaghcfhadaa.Cp
/-! ### impl_PopFront: function 39 -/
def impl_PopFront.j0 : Nat → Bool → List (List Int) → Int → Int → Int → Int → Int → Int → Option (Int × Int × Int × Int × Int × Int × Int × Bool)
 | 0, _, _, _, _, _, _, _, _ => none
 | k + 1, x16, x213000, x214000, x214001, x214002, x214003, x214004, x214005 => if x16 = true then (some (0, 0, 0, 0, 0, 0, 0, false)) else ((impl_Memory_seen.f x213000 x214000 x214001 x214002 x214003).bind fun t216 => (if 0 ≤ x214004 then (if x214004 < (t216.length : Int) then ((impl_Ring_slot.f x214000 x214001 x214002 x214003 x214004 x214005 1).bind fun t220 => (some (rd t216 x214004, x214000, x214001, x214002, x214003, t220, wrap64 (x214005 - 1), true))) else (none)) else (none)))
def impl_PopFront.f (k : Nat) (l0_0 : List (List Int)) (a1_0 : Int) (a1_1 : Int) (a1_2 : Int) (a1_3 : Int) (a1_4 : Int) (a1_5 : Int) : Option (Int × Int × Int × Int × Int × Int × Int × Bool) := (impl_isRing.f k l0_0 a1_0 a1_1 a1_2 a1_3 a1_4 a1_5).bind fun t215 => (if t215 = true then (impl_PopFront.j0 k (a1_5 == 0) l0_0 a1_0 a1_1 a1_2 a1_3 a1_4 a1_5) else (impl_PopFront.j0 k true l0_0 a1_0 a1_1 a1_2 a1_3 a1_4 a1_5))
theorem impl_PopFront.mono_l : ∀ k, (∀ y0 y1 y2 y3 y4 y5 y6 y7, LeO (impl_PopFront.j0 k y0 y1 y2 y3 y4 y5 y6 y7) (impl_PopFront.j0 (k + 1) y0 y1 y2 y3 y4 y5 y6 y7))
 | 0 => fun _ _ _ _ _ _ _ _ r h => by simp [impl_PopFront.j0] at h
 | k + 1 => by
  have ih0 := impl_PopFront.mono_l k
  ·intro y0 y1 y2 y3 y4 y5 y6 y7
   unfold impl_PopFront.j0
   repeat' first
   | (with_reducible exact ih0 _ _ _ _ _ _ _ _)
   | (with_reducible exact impl_isRing.mono _ _ _ _ _ _ _ _)
   | (with_reducible exact LeO.refl _)
   | (with_reducible exact LeO.none _)
   | (with_reducible refine LeO.ite ?_ ?_)
   | (with_reducible refine LeO.bind ?_ (fun _ => ?_))
   | exact ih0 _ _ _ _ _ _ _ _
   | exact impl_isRing.mono _ _ _ _ _ _ _ _
   | exact LeO.none _
   | refine LeO.ite ?_ ?_
   | refine LeO.bind ?_ (fun _ => ?_)
theorem impl_PopFront.mono : ∀ a0 a1 a2 a3 a4 a5 a6 k, LeO (impl_PopFront.f k a0 a1 a2 a3 a4 a5 a6) (impl_PopFront.f (k + 1) a0 a1 a2 a3 a4 a5 a6) := by
 intro a0 a1 a2 a3 a4 a5 a6 k
 have ih0 := impl_PopFront.mono_l k
 unfold impl_PopFront.f
 repeat' first
   | (with_reducible exact ih0 _ _ _ _ _ _ _ _)
   | (with_reducible exact impl_isRing.mono _ _ _ _ _ _ _ _)
   | (with_reducible exact LeO.refl _)
   | (with_reducible exact LeO.none _)
   | (with_reducible refine LeO.ite ?_ ?_)
   | (with_reducible refine LeO.bind ?_ (fun _ => ?_))
   | exact ih0 _ _ _ _ _ _ _ _
   | exact impl_isRing.mono _ _ _ _ _ _ _ _
   | exact LeO.none _
   | refine LeO.ite ?_ ?_
   | refine LeO.bind ?_ (fun _ => ?_)
def impl_PopFront.T3 : Bool × List (List Nat × List Nat) := (true, [([], []), ([], []), ([1], [1]), ([0, 2], [0, 2]), ([], []), ([4], [4]), ([3, 5], [3, 5]), ([6], [6]), ([7, 3, 0, 1, 2, 3, 4, 5, 6, 7], [7])])
def impl_PopFront.B3 : List Nat := [0, 0, 2, 7, 0, 16, 63, 127, 255]
theorem impl_PopFront.tab3 : rtab .any (opsOf Try.f39 3) = impl_PopFront.T3 := by kernel_rfl
theorem impl_PopFront.bits3 : waitsOk impl_PopFront.T3.2 impl_PopFront.B3 = true := by kernel_rfl
def impl_PopFront.T4 : Bool × List (List Nat × List Nat) := (true, [([], []), ([], []), ([1], [1]), ([], []), ([3], [3]), ([], []), ([5], [5]), ([6], [6]), ([2, 4, 7], [2, 4, 7]), ([0, 4, 0], [0]), ([8, 9, 0, 1, 2, 3, 4, 5, 6, 7, 8, 9], [8]), ([10, 0, 1, 2, 3, 4, 5, 6, 7, 8, 9, 10], [])])
def impl_PopFront.B4 : List Nat := [0, 0, 2, 0, 8, 0, 32, 96, 254, 25, 1023, 2047]
theorem impl_PopFront.tab4 : rtab .any (opsOf Try.f39 4) = impl_PopFront.T4 := by kernel_rfl
theorem impl_PopFront.bits4 : waitsOk impl_PopFront.T4.2 impl_PopFront.B4 = true := by kernel_rfl
set_option maxHeartbeats 8000000 in
set_option maxRecDepth 100000 in
theorem impl_PopFront.calls (k : Nat) (A0_0 : Option Addr) (c0_0 : Nat) (l0_0 : List (List Int)) (a1_0 : Int) (a1_1 : Int) (a1_2 : Int) (a1_3 : Int) (a1_4 : Int) (a1_5 : Int) (r1 : Int) (r2 : Int) (r3 : Int) (r4 : Int) (r5 : Int) (r6 : Int) (r7 : Int) (r8 : Bool) (w : World) (hr0_0 : Kd.C (Kd.slice 5 (Kd.int .u8)) w A0_0 l0_0.length l0_0) (hc0_0 : l0_0.length ≤ c0_0) (h : impl_PopFront.f k l0_0 a1_0 a1_1 a1_2 a1_3 a1_4 a1_5 = some (r1, r2, r3, r4, r5, r6, r7, r8)) :
  Calls Try.prog 39 #[.agg #[.slice A0_0 l0_0.length c0_0], .agg #[.int .i64 a1_0, .int .i64 a1_1, .int .i64 a1_2, .int .i64 a1_3, .int .i64 a1_4, .int .i64 a1_5]] w fun e w' => e = .returned (.tuple #[.int .u8 r1, .agg #[.int .i64 r2, .int .i64 r3, .int .i64 r4, .int .i64 r5, .int .i64 r6, .int .i64 r7], .bool r8]) ∧ Below w.heap.size w w' := by
 have hu32 := Try.underlying32
 have hu36 := Try.underlying36
 have hu34 := Try.underlying34
 have HR0_0 := Aside0.mk hr0_0
 have HC0_0 := Aside0.mk hc0_0
 clear hr0_0 hc0_0
 have HB := Aside0.mk (Below.refl w.heap.size w)
 have H : ((impl_isRing.f k l0_0 a1_0 a1_1 a1_2 a1_3 a1_4 a1_5).bind fun t215 => (if t215 = true then (impl_PopFront.j0 k (a1_5 == 0) l0_0 a1_0 a1_1 a1_2 a1_3 a1_4 a1_5) else (impl_PopFront.j0 k true l0_0 a1_0 a1_1 a1_2 a1_3 a1_4 a1_5))) = some (r1, r2, r3, r4, r5, r6, r7, r8) := h
 clear h
 have HC3 := Aside0.mk H
 clear H
 go_enter Try.func39, Try.ntmps39
 go_upto_region 1 with (first | ((with_reducible refine gate_dst (N := 2) rfl ?_); refine box_event ?hg (N := 2) ?hd (cs := #[.slice A0_0 l0_0.length c0_0]) (t := 32) ?hr ?_; (case hd => rfl); (case hg => rfl); (case hr => first | (go_simp; done) | (go_simp; rfl)); intro gb212 hg w4 hbox hb; have BK212 := Aside0.mk (hbox); have GW212 := zge HB hg; have GE212 := zge HB hg; replace HB := zhs HB hb; clear hb hbox hg) | ((with_reducible refine gate_dst (N := 3) rfl ?_); refine box_event ?hg (N := 3) ?hd (cs := #[.int .i64 a1_0, .int .i64 a1_1, .int .i64 a1_2, .int .i64 a1_3, .int .i64 a1_4, .int .i64 a1_5]) (t := 36) ?hr ?_; (case hd => rfl); (case hg => rfl); (case hr => first | (go_simp; done) | (go_simp; rfl)); intro gb213 hg w5 hbox hb; have BK213 := Aside0.mk (hbox); have GW213 := zge HB hg; have GE213 := zge HB hg; have NB212_213 := znl BK212 hg; have NB213_212 := znr BK212 hg; replace BK212 := zb0 BK212 hb; replace HB := zhs HB hb; clear hb hbox hg) | ((with_reducible refine gate_dst (N := 5) rfl ?_); refine box_event ?hg (N := 5) ?hd (cs := #[.int .i64 0, .int .i64 0, .int .i64 0, .int .i64 0, .int .i64 0, .int .i64 0]) (t := 36) ?hr ?_; (case hd => rfl); (case hg => rfl); (case hr => first | (go_simp; done) | (go_simp; rfl)); intro gb214 hg w6 hbox hb; have BK214 := Aside0.mk (hbox); have GW214 := zge HB hg; have GE214 := zge HB hg; have NB212_214 := znl BK212 hg; have NB214_212 := znr BK212 hg; have NB213_214 := znl BK213 hg; have NB214_213 := znr BK213 hg; replace BK212 := zb0 BK212 hb; replace BK213 := zb0 BK213 hb; replace HB := zhs HB hb; clear hb hbox hg))
 (try simp only [Act.put, zp1, zp2, zp3])
 go_cut [16] (fun v16 wc => ∃ (kq : Nat) (x16_2 : Bool), v16 = .bool x16_2 ∧ Aside0 (impl_PopFront.j0 kq x16_2 l0_0 a1_0 a1_1 a1_2 a1_3 a1_4 a1_5 = some (r1, r2, r3, r4, r5, r6, r7, r8)) ∧ Aside0 (kq ≤ k) ∧ Aside0 (wc.heap[gb212]? = some (.cells #[(.slice A0_0 l0_0.length c0_0)] 32 (0, 0))) ∧ Aside0 (wc.heap[gb213]? = some (.cells #[.int .i64 a1_0, .int .i64 a1_1, .int .i64 a1_2, .int .i64 a1_3, .int .i64 a1_4, .int .i64 a1_5] 36 (0, 0))) ∧ Aside0 (wc.heap[gb214]? = some (.cells #[.int .i64 0, .int .i64 0, .int .i64 0, .int .i64 0, .int .i64 0, .int .i64 0] 36 (0, 0))) ∧ Aside0 (Below w.heap.size w wc))
 case first =>
  have H := HC3.out
  clear HC3
  replace H := Option.bind_eq_some_iff.mp H
  obtain ⟨t215, A70, H⟩ := H
  replace H : (if t215 = true then (impl_PopFront.j0 k (a1_5 == 0) l0_0 a1_0 a1_1 a1_2 a1_3 a1_4 a1_5) else (impl_PopFront.j0 k true l0_0 a1_0 a1_1 a1_2 a1_3 a1_4 a1_5)) = some (r1, r2, r3, r4, r5, r6, r7, r8) := H
  have A7 := Aside0.mk A70
  clear A70
  by_cases c8 : t215 = true
  ·subst c8
   have H1 : (impl_PopFront.j0 k (a1_5 == 0) l0_0 a1_0 a1_1 a1_2 a1_3 a1_4 a1_5) = some (r1, r2, r3, r4, r5, r6, r7, r8) := by rw [if_pos rfl] at H; exact H
   clear H
   have H := H1
   clear H1
   have H' := Aside0.mk H
   clear H
   have hnb9 := NB212_213.out
   have hnc9 := NB213_212.out
   have hnb10 := NB212_214.out
   have hnc10 := NB214_212.out
   have hcz11_0 : w6.cell? ⟨gb212, 0, none⟩ = some (.slice A0_0 l0_0.length c0_0) := zc0 BK212 0 rfl
   have hfz11_0 := blk_frozen BK212.out 0
   have hnb12 := NB213_214.out
   have hnc12 := NB214_213.out
   have hcz13_0 : w6.cell? ⟨gb213, 0, none⟩ = some (.int .i64 a1_0) := zc0 BK213 0 rfl
   have hcz13_1 : w6.cell? ⟨gb213, 1, none⟩ = some (.int .i64 a1_1) := zc0 BK213 1 rfl
   have hcz13_2 : w6.cell? ⟨gb213, 2, none⟩ = some (.int .i64 a1_2) := zc0 BK213 2 rfl
   have hcz13_3 : w6.cell? ⟨gb213, 3, none⟩ = some (.int .i64 a1_3) := zc0 BK213 3 rfl
   have hcz13_4 : w6.cell? ⟨gb213, 4, none⟩ = some (.int .i64 a1_4) := zc0 BK213 4 rfl
   have hcz13_5 : w6.cell? ⟨gb213, 5, none⟩ = some (.int .i64 a1_5) := zc0 BK213 5 rfl
   have hfz13_0 := blk_frozen BK213.out 0
   have hfz13_1 := blk_frozen BK213.out 1
   have hfz13_2 := blk_frozen BK213.out 2
   have hfz13_3 := blk_frozen BK213.out 3
   have hfz13_4 := blk_frozen BK213.out 4
   have hfz13_5 := blk_frozen BK213.out 5
   go_wp2_with (first | ((with_reducible refine gate_callee (f := 81) rfl ?_); refine goesL_ (some 10) rfl rfl Try.func81 (by kernel_rfl) rfl #[.agg #[.slice A0_0 l0_0.length c0_0], .agg #[.int .i64 a1_0, .int .i64 a1_1, .int .i64 a1_2, .int .i64 a1_3, .int .i64 a1_4, .int .i64 a1_5]] rfl (by (try simp only [List.map_toArray, List.map_cons, List.map_nil]); first | done | rfl | (simp only [List.length_drop, List.length_take]; rfl)) ?_; (with_reducible refine (impl_isRing.calls k _ _ l0_0 a1_0 a1_1 a1_2 a1_3 a1_4 a1_5 true _ ?side1 ?side2 A7.out).mono ?_); (case side1 => repeat (first | exact (Kd.C_below HR0_0.out HB.out) | (with_reducible refine Kd.C_alloc ?_ _) | (with_reducible refine Kd.C_drewN ?_ _) | (with_reducible refine Kd.C_drew ?_))); (case side2 => exact HC0_0.out); rintro e w14 ⟨rfl, hb⟩; refine ⟨_, rfl, ?_⟩; replace BK212 := zb0 BK212 hb; replace BK213 := zb0 BK213 hb; replace BK214 := zb0 BK214 hb; replace HB := zhs HB hb; (try clear hb); (try clear hb2); (try clear hk); (try clear hi); have hcz15_0 : w14.cell? ⟨gb213, 0, none⟩ = some (.int .i64 a1_0) := zc0 BK213 0 rfl; have hcz15_1 : w14.cell? ⟨gb213, 1, none⟩ = some (.int .i64 a1_1) := zc0 BK213 1 rfl; have hcz15_2 : w14.cell? ⟨gb213, 2, none⟩ = some (.int .i64 a1_2) := zc0 BK213 2 rfl; have hcz15_3 : w14.cell? ⟨gb213, 3, none⟩ = some (.int .i64 a1_3) := zc0 BK213 3 rfl; have hcz15_4 : w14.cell? ⟨gb213, 4, none⟩ = some (.int .i64 a1_4) := zc0 BK213 4 rfl; have hcz15_5 : w14.cell? ⟨gb213, 5, none⟩ = some (.int .i64 a1_5) := zc0 BK213 5 rfl; have hfz15_0 := blk_frozen BK213.out 0; have hfz15_1 := blk_frozen BK213.out 1; have hfz15_2 := blk_frozen BK213.out 2; have hfz15_3 := blk_frozen BK213.out 3; have hfz15_4 := blk_frozen BK213.out 4; have hfz15_5 := blk_frozen BK213.out 5))
   go_meet
   case rel => exact ⟨_, ((a1_5 == 0)), (by first | rfl | (simp; done) | (simp [*]; done)), H', ⟨by first | omega | exact Nat.le_refl _⟩, ⟨zk0 BK212⟩, ⟨zk0 BK213⟩, ⟨zk0 BK214⟩, ⟨by repeat (first | (with_reducible first | exact HB.out | apply below_alloc | apply pw_below_drewN | apply below_drew1 | refine below_set ?_ GE212.out | refine below_set ?_ GE213.out | refine below_set ?_ GE214.out) | exact HB.out)⟩⟩
  ·replace c8 := Bool.eq_false_iff.mpr c8
   subst c8
   have H1 : (impl_PopFront.j0 k true l0_0 a1_0 a1_1 a1_2 a1_3 a1_4 a1_5) = some (r1, r2, r3, r4, r5, r6, r7, r8) := by rw [if_neg (show ¬ (false = true) by decide)] at H; exact H
   clear H
   have H := H1
   clear H1
   have H' := Aside0.mk H
   clear H
   have hnb16 := NB212_213.out
   have hnc16 := NB213_212.out
   have hnb17 := NB212_214.out
   have hnc17 := NB214_212.out
   have hcz18_0 : w6.cell? ⟨gb212, 0, none⟩ = some (.slice A0_0 l0_0.length c0_0) := zc0 BK212 0 rfl
   have hfz18_0 := blk_frozen BK212.out 0
   have hnb19 := NB213_214.out
   have hnc19 := NB214_213.out
   have hcz20_0 : w6.cell? ⟨gb213, 0, none⟩ = some (.int .i64 a1_0) := zc0 BK213 0 rfl
   have hcz20_1 : w6.cell? ⟨gb213, 1, none⟩ = some (.int .i64 a1_1) := zc0 BK213 1 rfl
   have hcz20_2 : w6.cell? ⟨gb213, 2, none⟩ = some (.int .i64 a1_2) := zc0 BK213 2 rfl
   have hcz20_3 : w6.cell? ⟨gb213, 3, none⟩ = some (.int .i64 a1_3) := zc0 BK213 3 rfl
   have hcz20_4 : w6.cell? ⟨gb213, 4, none⟩ = some (.int .i64 a1_4) := zc0 BK213 4 rfl
   have hcz20_5 : w6.cell? ⟨gb213, 5, none⟩ = some (.int .i64 a1_5) := zc0 BK213 5 rfl
   have hfz20_0 := blk_frozen BK213.out 0
   have hfz20_1 := blk_frozen BK213.out 1
   have hfz20_2 := blk_frozen BK213.out 2
   have hfz20_3 := blk_frozen BK213.out 3
   have hfz20_4 := blk_frozen BK213.out 4
   have hfz20_5 := blk_frozen BK213.out 5
   go_wp2_with (first | ((with_reducible refine gate_callee (f := 81) rfl ?_); refine goesL_ (some 10) rfl rfl Try.func81 (by kernel_rfl) rfl #[.agg #[.slice A0_0 l0_0.length c0_0], .agg #[.int .i64 a1_0, .int .i64 a1_1, .int .i64 a1_2, .int .i64 a1_3, .int .i64 a1_4, .int .i64 a1_5]] rfl (by (try simp only [List.map_toArray, List.map_cons, List.map_nil]); first | done | rfl | (simp only [List.length_drop, List.length_take]; rfl)) ?_; (with_reducible refine (impl_isRing.calls k _ _ l0_0 a1_0 a1_1 a1_2 a1_3 a1_4 a1_5 false _ ?side1 ?side2 A7.out).mono ?_); (case side1 => repeat (first | exact (Kd.C_below HR0_0.out HB.out) | (with_reducible refine Kd.C_alloc ?_ _) | (with_reducible refine Kd.C_drewN ?_ _) | (with_reducible refine Kd.C_drew ?_))); (case side2 => exact HC0_0.out); rintro e w21 ⟨rfl, hb⟩; refine ⟨_, rfl, ?_⟩; replace BK212 := zb0 BK212 hb; replace BK213 := zb0 BK213 hb; replace BK214 := zb0 BK214 hb; replace HB := Aside0.mk (below_step (by repeat (first | (with_reducible first | exact HB.out | apply below_alloc | apply pw_below_drewN | apply below_drew1 | refine below_set ?_ GE212.out | refine below_set ?_ GE213.out | refine below_set ?_ GE214.out) | exact HB.out)) hb); (try clear hb); (try clear hb2); (try clear hk); (try clear hi)))
   go_meet
   case rel => exact ⟨_, (true), (by first | rfl | (simp; done) | (simp [*]; done)), H', ⟨by first | omega | exact Nat.le_refl _⟩, ⟨zk0 BK212⟩, ⟨zk0 BK213⟩, ⟨zk0 BK214⟩, ⟨by repeat (first | (with_reducible first | exact HB.out | apply below_alloc | apply pw_below_drewN | apply below_drew1 | refine below_set ?_ GE212.out | refine below_set ?_ GE213.out | refine below_set ?_ GE214.out) | exact HB.out)⟩⟩
 case rest =>
  clear HC3
  try clear c1
  try clear p2
  try clear c3
  try clear c8
  try clear c9
  try clear c10
  try clear c12
  try clear c16
  try clear c17
  try clear c19
  try clear hcz11_0
  try clear hcz13_0
  try clear hcz13_1
  try clear hcz13_2
  try clear hcz13_3
  try clear hcz13_4
  try clear hcz13_5
  try clear hcz15_0
  try clear hcz15_1
  try clear hcz15_2
  try clear hcz15_3
  try clear hcz15_4
  try clear hcz15_5
  try clear hcz18_0
  try clear hcz20_0
  try clear hcz20_1
  try clear hcz20_2
  try clear hcz20_3
  try clear hcz20_4
  try clear hcz20_5
  try clear hfz11_0
  try clear hfz13_0
  try clear hfz13_1
  try clear hfz13_2
  try clear hfz13_3
  try clear hfz13_4
  try clear hfz13_5
  try clear hfz15_0
  try clear hfz15_1
  try clear hfz15_2
  try clear hfz15_3
  try clear hfz15_4
  try clear hfz15_5
  try clear hfz18_0
  try clear hfz20_0
  try clear hfz20_1
  try clear hfz20_2
  try clear hfz20_3
  try clear hfz20_4
  try clear hfz20_5
  obtain ⟨kq, x16_2, rfl, HA, HJ2, BK212, BK213, BK214, HB⟩ := hcut
  cases kq with
  | zero => exact absurd HA.out (by simp [impl_PopFront.j0])
  | succ kj2 =>
   have H := HA.out
   clear HA
   simp only [impl_PopFront.j0] at H
   by_cases c22 : x16_2 = true
   ·subst c22
    have H1 : (some (0, 0, 0, 0, 0, 0, 0, false)) = some (r1, r2, r3, r4, r5, r6, r7, r8) := by rw [if_pos rfl] at H; exact H
    clear H
    have H := H1
    clear H1
    simp only [Option.some.injEq, Prod.mk.injEq] at H
    obtain ⟨rfl, rfl, rfl, rfl, rfl, rfl, rfl, rfl⟩ := H
    have hnb23 := NB214_212.out
    have hnc23 := NB212_214.out
    have hnb24 := NB214_213.out
    have hnc24 := NB213_214.out
    have hcz25_0 : wc.cell? ⟨gb214, 0, none⟩ = some (.int .i64 0) := zc0 BK214 0 rfl
    have hcz25_1 : wc.cell? ⟨gb214, 1, none⟩ = some (.int .i64 0) := zc0 BK214 1 rfl
    have hcz25_2 : wc.cell? ⟨gb214, 2, none⟩ = some (.int .i64 0) := zc0 BK214 2 rfl
    have hcz25_3 : wc.cell? ⟨gb214, 3, none⟩ = some (.int .i64 0) := zc0 BK214 3 rfl
    have hcz25_4 : wc.cell? ⟨gb214, 4, none⟩ = some (.int .i64 0) := zc0 BK214 4 rfl
    have hcz25_5 : wc.cell? ⟨gb214, 5, none⟩ = some (.int .i64 0) := zc0 BK214 5 rfl
    have hfz25_0 := blk_frozen BK214.out 0
    have hfz25_1 := blk_frozen BK214.out 1
    have hfz25_2 := blk_frozen BK214.out 2
    have hfz25_3 := blk_frozen BK214.out 3
    have hfz25_4 := blk_frozen BK214.out 4
    have hfz25_5 := blk_frozen BK214.out 5
    go_wp2
    refine bodyPost_ret (results_list (rs := [.tmp 4, .cell 5 36, .tmp 6]) rfl (by simp) (.tmp (.cell gb214 36 #[.int .i64 0, .int .i64 0, .int .i64 0, .int .i64 0, .int .i64 0, .int .i64 0] (0, 0) _ rfl (by (with_reducible repeat (first | refine blk_drewN ?_ _ | refine blk_drew ?_ | refine blk_alloc ?_ _)); refine blk_put (cs := #[.int .i64 0, .int .i64 0, .int .i64 0, .int .i64 0, .int .i64 0, .int .i64 0]) ?_ 5 _ rfl; (with_reducible repeat (first | refine blk_drewN ?_ _ | refine blk_drew ?_ | refine blk_alloc ?_ _)); refine blk_put (cs := #[.int .i64 0, .int .i64 0, .int .i64 0, .int .i64 0, .int .i64 0, .int .i64 0]) ?_ 4 _ rfl; (with_reducible repeat (first | refine blk_drewN ?_ _ | refine blk_drew ?_ | refine blk_alloc ?_ _)); refine blk_put (cs := #[.int .i64 0, .int .i64 0, .int .i64 0, .int .i64 0, .int .i64 0, .int .i64 0]) ?_ 3 _ rfl; (with_reducible repeat (first | refine blk_drewN ?_ _ | refine blk_drew ?_ | refine blk_alloc ?_ _)); refine blk_put (cs := #[.int .i64 0, .int .i64 0, .int .i64 0, .int .i64 0, .int .i64 0, .int .i64 0]) ?_ 2 _ rfl; (with_reducible repeat (first | refine blk_drewN ?_ _ | refine blk_drew ?_ | refine blk_alloc ?_ _)); refine blk_put (cs := #[.int .i64 0, .int .i64 0, .int .i64 0, .int .i64 0, .int .i64 0, .int .i64 0]) ?_ 1 _ rfl; (with_reducible repeat (first | refine blk_drewN ?_ _ | refine blk_drew ?_ | refine blk_alloc ?_ _)); refine blk_put (cs := #[.int .i64 0, .int .i64 0, .int .i64 0, .int .i64 0, .int .i64 0, .int .i64 0]) ?_ 0 _ rfl; (with_reducible repeat (first | refine blk_drewN ?_ _ | refine blk_drew ?_ | refine blk_alloc ?_ _)); exact BK214.out) Try.underlying36 rfl (by kernel_rfl) (.tmp .nil)))) rfl ?_
    exact ⟨by first | rfl | (simp [errW_none, errW_some] <;> rfl) | (simp [*, errW_none, errW_some] <;> rfl), by repeat (first | (with_reducible first | exact HB.out | apply below_alloc | apply pw_below_drewN | apply below_drew1 | refine below_set ?_ GE212.out | refine below_set ?_ GE213.out | refine below_set ?_ GE214.out) | exact HB.out)⟩
   ·replace c22 := Bool.eq_false_iff.mpr c22
    subst c22
    have H1 : ((impl_Memory_seen.f l0_0 a1_0 a1_1 a1_2 a1_3).bind fun t216 => (if 0 ≤ a1_4 then (if a1_4 < (t216.length : Int) then ((impl_Ring_slot.f a1_0 a1_1 a1_2 a1_3 a1_4 a1_5 1).bind fun t220 => (some (rd t216 a1_4, a1_0, a1_1, a1_2, a1_3, t220, wrap64 (a1_5 - 1), true))) else (none)) else (none))) = some (r1, r2, r3, r4, r5, r6, r7, r8) := by rw [if_neg (show ¬ (false = true) by decide)] at H; exact H
    clear H
    have H := H1
    clear H1
    replace H := Option.bind_eq_some_iff.mp H
    obtain ⟨t216, A260, H⟩ := H
    replace H : (if 0 ≤ a1_4 then (if a1_4 < (t216.length : Int) then ((impl_Ring_slot.f a1_0 a1_1 a1_2 a1_3 a1_4 a1_5 1).bind fun t220 => (some (rd t216 a1_4, a1_0, a1_1, a1_2, a1_3, t220, wrap64 (a1_5 - 1), true))) else (none)) else (none)) = some (r1, r2, r3, r4, r5, r6, r7, r8) := H
    have A26 := Aside0.mk A260
    clear A260
    by_cases c27 : 0 ≤ a1_4
    ·rw [if_pos c27] at H
     have c27b0 : decide (0 ≤ a1_4) = true := decide_eq_true c27
     clear c27
     by_cases c28 : a1_4 < (t216.length : Int)
     ·rw [if_pos c28] at H
      have c28b0 : decide (a1_4 < (t216.length : Int)) = true := decide_eq_true c28
      clear c28
      replace H := Option.bind_eq_some_iff.mp H
      obtain ⟨t220, A290, H⟩ := H
      replace H : (some (rd t216 a1_4, a1_0, a1_1, a1_2, a1_3, t220, wrap64 (a1_5 - 1), true)) = some (r1, r2, r3, r4, r5, r6, r7, r8) := H
      have A29 := Aside0.mk A290
      clear A290
      simp only [Option.some.injEq, Prod.mk.injEq] at H
      obtain ⟨rfl, rfl, rfl, rfl, rfl, rfl, rfl, rfl⟩ := H
      try go_wp2
      replace BK212 := Aside0.mk (blk_drew BK212.out)
      replace BK213 := Aside0.mk (blk_drew BK213.out)
      replace BK214 := Aside0.mk (blk_drew BK214.out)
      replace HB := Aside0.mk (below_drew1 HB.out)
      refine start_ (n := 9) (S := fun w' => w'.cell? ⟨gb212, 0, none⟩ = some (.slice A0_0 l0_0.length c0_0) ∧ w'.cell? ⟨gb213, 0, none⟩ = some (.int .i64 a1_0) ∧ w'.cell? ⟨gb213, 1, none⟩ = some (.int .i64 a1_1) ∧ w'.cell? ⟨gb213, 2, none⟩ = some (.int .i64 a1_2) ∧ w'.cell? ⟨gb213, 3, none⟩ = some (.int .i64 a1_3) ∧ w'.cell? ⟨gb213, 4, none⟩ = some (.int .i64 a1_4) ∧ w'.cell? ⟨gb213, 5, none⟩ = some (.int .i64 a1_5)) (ds := []) #[false, false, false, false, false, false, false, false, false] (by kernel_rfl) rfl rfl ⟨zc0 BK212 0 rfl, zc0 BK213 0 rfl, zc0 BK213 1 rfl, zc0 BK213 2 rfl, zc0 BK213 3 rfl, zc0 BK213 4 rfl, zc0 BK213 5 rfl⟩ (fun hHeld => ?_); refine with_tabW impl_PopFront.tab3 impl_PopFront.bits3 (fun HT_ HW_ => ?_)
      generalize wc.drew = w30 at BK212 BK213 BK214 HB hHeld ⊢
      refine pure_ (i := 1) (N := some 19) (v := ?_) (a' := ?_) #[false, true, false, false, false, false, false, false, false] rfl rfl (any_of HT_.out (by kernel_rfl)) (fun _ _ _ h => h) (Or.inl ⟨by rfl, ?_⟩) ?_ ?_
      rotate_left
      ·intro w'
       go_simp
       with_reducible rfl
      rotate_left
      ·simp only [Act.put, zp1, zp2, zp3, i64_w, i32_w]
       rfl
      refine pure_ (i := 4) (N := some 22) (v := ?_) (a' := ?_) #[false, true, false, false, true, false, false, false, false] rfl rfl (any_of HT_.out (by kernel_rfl)) (fun _ _ _ h => h) (Or.inl ⟨by rfl, ?_⟩) ?_ ?_
      rotate_left
      ·intro w'
       go_simp
       with_reducible rfl
      rotate_left
      ·simp only [Act.put, zp1, zp2, zp3, i64_w, i32_w]
       rfl
      refine take_ (i := 0) (N := some 18) (v := ?_) (a' := ?_) #[true, true, false, false, true, false, false, false, false] rfl rfl (take_ofW HT_.out HW_.out (by kernel_rfl)) (fun _ _ _ h => h) (Or.inl ⟨by rfl, ?_⟩) hHeld ?_ ?_
      rotate_left
      ·rintro w' ⟨s0, s1, s2, s3, s4, s5, s6⟩
       go_simp
       with_reducible rfl
      rotate_left
      ·simp only [Act.put, zp1, zp2, zp3, i64_w, i32_w]
       rfl
      refine take_ (i := 2) (N := some 20) (v := ?_) (a' := ?_) #[true, true, true, false, true, false, false, false, false] rfl rfl (take_ofW HT_.out HW_.out (by kernel_rfl)) (fun _ _ _ h => h) (Or.inl ⟨by rfl, ?_⟩) hHeld ?_ ?_
      rotate_left
      ·rintro w' ⟨s0, s1, s2, s3, s4, s5, s6⟩
       go_simp
       with_reducible rfl
      rotate_left
      ·simp only [Act.put, zp1, zp2, zp3, i64_w, i32_w]
       rfl
      refine take_ (i := 5) (N := some 23) (v := ?_) (a' := ?_) #[true, true, true, false, true, true, false, false, false] rfl rfl (take_ofW HT_.out HW_.out (by kernel_rfl)) (fun _ _ _ h => h) (Or.inl ⟨by rfl, ?_⟩) hHeld ?_ ?_
      rotate_left
      ·rintro w' ⟨s0, s1, s2, s3, s4, s5, s6⟩
       go_simp
       with_reducible rfl
      rotate_left
      ·simp only [Act.put, zp1, zp2, zp3, i64_w, i32_w]
       rfl
      refine one_ (i := 3) (N := some 21) #[true, true, true, true, true, true, false, false, false] rfl rfl (one_of HT_.out (by kernel_rfl)) (by decide) (fun K hK => ?_)
      refine goes_ Try.func87 (by kernel_rfl) rfl #[.agg #[.slice A0_0 l0_0.length c0_0], .agg #[.int .i64 a1_0, .int .i64 a1_1, .int .i64 a1_2, .int .i64 a1_3]] (by rfl) rfl rfl (by (try simp only [List.map_toArray, List.map_cons, List.map_nil]); first | done | rfl | (simp only [List.length_drop, List.length_take]; rfl)) ?_
      with_reducible refine (impl_Memory_seen.calls (fun k_ => k_ < w.heap.size) _ _ l0_0 a1_0 a1_1 a1_2 a1_3 t216 _ ?side1 A26.out).mono ?_
      (case side1 => exact Kd.V_mk HC0_0.out (Kd.F_below (Kd.C_F (Kd.heap_slice 5 (Kd.heap_int .u8)) HR0_0.out) (zh0 HB)))
      rintro e w31 ⟨v217, rfl, ho0, hb⟩
      refine ⟨_, rfl, ?_⟩
      have HO218 := Aside0.mk (Kd.V_lower (Kd.V_mono (ok' := fun k_ => k_ ≠ gb212 ∧ k_ ≠ gb213 ∧ k_ ≠ gb214) ho0 (fun k_ hk_ => ⟨Or.elim hk_ (fun hs_ => fun e_ => Nat.not_le.2 hs_ (by rw [e_]; exact GW212.out)) (fun hn_ => (Kd.freshB (g := gb212) (o := .cells #[.slice A0_0 l0_0.length c0_0] 32 (0, 0)) (zk0 BK212) k_ hn_)), Or.elim hk_ (fun hs_ => fun e_ => Nat.not_le.2 hs_ (by rw [e_]; exact GW213.out)) (fun hn_ => (Kd.freshB (g := gb213) (o := .cells #[.int .i64 a1_0, .int .i64 a1_1, .int .i64 a1_2, .int .i64 a1_3, .int .i64 a1_4, .int .i64 a1_5] 36 (0, 0)) (zk0 BK213) k_ hn_)), Or.elim hk_ (fun hs_ => fun e_ => Nat.not_le.2 hs_ (by rw [e_]; exact GW214.out)) (fun hn_ => (Kd.freshB (g := gb214) (o := .cells #[.int .i64 0, .int .i64 0, .int .i64 0, .int .i64 0, .int .i64 0, .int .i64 0] 36 (0, 0)) (zk0 BK214) k_ hn_))⟩)) (below_size (zh0 HB)))
      replace BK212 := zb0 BK212 hb
      replace BK213 := zb0 BK213 hb
      replace BK214 := zb0 BK214 hb
      replace HB := zhs HB hb
      (try clear hb)
      (try clear hb2)
      (try clear hk)
      (try clear hi)
      (try clear ho0)
      obtain ⟨Ao32, co32, eo32⟩ := Kd.V_slice HO218.out
      (first | subst eo32 | (injection eo32 with f1_ f2_ f3_; have f4_ := f1_.symm; have f5_ := f3_.symm; clear f1_ f2_ f3_; subst f4_; subst f5_))
      have p219 : 0 ≤ (a1_4 : Int) := of_decide_eq_true (by first | (with_reducible assumption) | assumption)
      have q219 : a1_4 < (t216.length : Int) := of_decide_eq_true (by first | (with_reducible assumption) | assumption)
      obtain ⟨ad219, e219, hx219_0⟩ := Kd.at_int (Kd.V_reads' HO218.out).2.2 a1_4 p219 q219
      cases e219
      replace p219 := eq_true p219
      replace q219 := eq_true q219
      refine hK.out _ _ ⟨zc0 BK212 0 rfl, zc0 BK213 0 rfl, zc0 BK213 1 rfl, zc0 BK213 2 rfl, zc0 BK213 3 rfl, zc0 BK213 4 rfl, zc0 BK213 5 rfl⟩ (fun hHeld => ?_)
      clear hK K
      refine norm_ (a' := ?_) ?_ ?_
      rotate_left
      ·show Act.put _ (some 21) _ = _
       simp only [Act.put, zp1, zp2, zp3, i64_w, i32_w]
       rfl
      refine pure_ (i := 6) (N := some 24) (v := ?_) (a' := ?_) #[true, true, true, true, true, true, true, false, false] rfl rfl (any_of HT_.out (by kernel_rfl)) (fun _ _ _ h => h) (Or.inl ⟨by rfl, ?_⟩) ?_ ?_
      rotate_left
      ·intro w'
       go_simp
       with_reducible rfl
      rotate_left
      ·simp only [Act.put, zp1, zp2, zp3, i64_w, i32_w]
       rfl
      refine one_ (i := 7) (N := some 25) #[true, true, true, true, true, true, true, true, false] rfl rfl (one_of HT_.out (by kernel_rfl)) (by decide) (fun K hK => ?_)
      refine event_step (v := .int .u8 (rd t216 a1_4)) (w1 := w31) ?hw ?hr ?_; (case hw => rfl); (case hr => first | (go_simp; done) | (go_simp; rfl))
      refine hK.out _ _ ⟨zc0 BK212 0 rfl, zc0 BK213 0 rfl, zc0 BK213 1 rfl, zc0 BK213 2 rfl, zc0 BK213 3 rfl, zc0 BK213 4 rfl, zc0 BK213 5 rfl⟩ (fun hHeld => ?_)
      clear hK K
      refine norm_ (a' := ?_) ?_ ?_
      rotate_left
      ·show Act.put _ (some 25) _ = _
       simp only [Act.put, zp1, zp2, zp3, i64_w, i32_w]
       rfl
      refine pure_ (i := 8) (N := some 7) (v := ?_) (a' := ?_) #[true, true, true, true, true, true, true, true, true] rfl rfl (any_of HT_.out (by kernel_rfl)) (fun _ _ _ h => h) (Or.inl ⟨by rfl, ?_⟩) ?_ ?_
      rotate_left
      ·intro w'
       go_simp
       with_reducible rfl
      rotate_left
      ·simp only [Act.put, zp1, zp2, zp3, i64_w, i32_w]
       rfl
      refine done_ (done_of HT_.out (by kernel_rfl)) ?_
      try go_wp2
      replace HO218 := Aside0.mk (Kd.V_drew HO218.out)
      replace BK212 := Aside0.mk (blk_drew BK212.out)
      replace BK213 := Aside0.mk (blk_drew BK213.out)
      replace BK214 := Aside0.mk (blk_drew BK214.out)
      replace HB := Aside0.mk (below_drew1 HB.out)
      refine start_ (n := 12) (S := fun w' => w'.cell? ⟨gb213, 0, none⟩ = some (.int .i64 a1_0) ∧ w'.cell? ⟨gb213, 1, none⟩ = some (.int .i64 a1_1) ∧ w'.cell? ⟨gb213, 2, none⟩ = some (.int .i64 a1_2) ∧ w'.cell? ⟨gb213, 3, none⟩ = some (.int .i64 a1_3) ∧ w'.cell? ⟨gb213, 4, none⟩ = some (.int .i64 a1_4) ∧ w'.cell? ⟨gb213, 5, none⟩ = some (.int .i64 a1_5)) (ds := []) #[false, false, false, false, false, false, false, false, false, false, false, false] (by kernel_rfl) rfl rfl ⟨zc0 BK213 0 rfl, zc0 BK213 1 rfl, zc0 BK213 2 rfl, zc0 BK213 3 rfl, zc0 BK213 4 rfl, zc0 BK213 5 rfl⟩ (fun hHeld => ?_); refine with_tabW impl_PopFront.tab4 impl_PopFront.bits4 (fun HT_ HW_ => ?_)
      generalize w31.drew = w33 at HO218 BK212 BK213 BK214 HB hHeld ⊢
      refine pure_ (i := 0) (N := some 26) (v := ?_) (a' := ?_) #[true, false, false, false, false, false, false, false, false, false, false, false] rfl rfl (any_of HT_.out (by kernel_rfl)) (fun _ _ _ h => h) (Or.inl ⟨by rfl, ?_⟩) ?_ ?_
      rotate_left
      ·intro w'
       go_simp
       with_reducible rfl
      rotate_left
      ·simp only [Act.put, zp1, zp2, zp3, i64_w, i32_w]
       rfl
      refine pure_ (i := 1) (N := some 27) (v := ?_) (a' := ?_) #[true, true, false, false, false, false, false, false, false, false, false, false] rfl rfl (any_of HT_.out (by kernel_rfl)) (fun _ _ _ h => h) (Or.inl ⟨by rfl, ?_⟩) ?_ ?_
      rotate_left
      ·intro w'
       go_simp
       with_reducible rfl
      rotate_left
      ·simp only [Act.put, zp1, zp2, zp3, i64_w, i32_w]
       rfl
      refine pure_ (i := 5) (N := some 31) (v := ?_) (a' := ?_) #[true, true, false, false, false, true, false, false, false, false, false, false] rfl rfl (any_of HT_.out (by kernel_rfl)) (fun _ _ _ h => h) (Or.inl ⟨by rfl, ?_⟩) ?_ ?_
      rotate_left
      ·intro w'
       go_simp
       with_reducible rfl
      rotate_left
      ·simp only [Act.put, zp1, zp2, zp3, i64_w, i32_w]
       rfl
      refine take_ (i := 2) (N := some 28) (v := ?_) (a' := ?_) #[true, true, true, false, false, true, false, false, false, false, false, false] rfl rfl (take_ofW HT_.out HW_.out (by kernel_rfl)) (fun _ _ _ h => h) (Or.inl ⟨by rfl, ?_⟩) hHeld ?_ ?_
      rotate_left
      ·rintro w' ⟨s0, s1, s2, s3, s4, s5⟩
       go_simp
       with_reducible rfl
      rotate_left
      ·simp only [Act.put, zp1, zp2, zp3, i64_w, i32_w]
       rfl
      refine take_ (i := 3) (N := some 29) (v := ?_) (a' := ?_) #[true, true, true, true, false, true, false, false, false, false, false, false] rfl rfl (take_ofW HT_.out HW_.out (by kernel_rfl)) (fun _ _ _ h => h) (Or.inl ⟨by rfl, ?_⟩) hHeld ?_ ?_
      rotate_left
      ·rintro w' ⟨s0, s1, s2, s3, s4, s5⟩
       go_simp
       with_reducible rfl
      rotate_left
      ·simp only [Act.put, zp1, zp2, zp3, i64_w, i32_w]
       rfl
      refine take_ (i := 6) (N := some 32) (v := ?_) (a' := ?_) #[true, true, true, true, false, true, true, false, false, false, false, false] rfl rfl (take_ofW HT_.out HW_.out (by kernel_rfl)) (fun _ _ _ h => h) (Or.inl ⟨by rfl, ?_⟩) hHeld ?_ ?_
      rotate_left
      ·rintro w' ⟨s0, s1, s2, s3, s4, s5⟩
       go_simp
       with_reducible rfl
      rotate_left
      ·simp only [Act.put, zp1, zp2, zp3, i64_w, i32_w]
       rfl
      refine pure_ (i := 7) (N := some 33) (v := ?_) (a' := ?_) #[true, true, true, true, false, true, true, true, false, false, false, false] rfl rfl (any_of HT_.out (by kernel_rfl)) (fun _ _ _ h => h) (Or.inl ⟨by rfl, ?_⟩) ?_ ?_
      rotate_left
      ·intro w'
       go_simp
       with_reducible rfl
      rotate_left
      ·simp only [Act.put, zp1, zp2, zp3, i64_w, i32_w]
       rfl
      refine one_ (i := 4) (N := some 30) #[true, true, true, true, true, true, true, true, false, false, false, false] rfl rfl (one_of HT_.out (by kernel_rfl)) (by decide) (fun K hK => ?_)
      refine goes_ Try.func88 (by kernel_rfl) rfl #[.agg #[.int .i64 a1_0, .int .i64 a1_1, .int .i64 a1_2, .int .i64 a1_3, .int .i64 a1_4, .int .i64 a1_5], .int .i64 1] (by rfl) rfl rfl (by (try simp only [List.map_toArray, List.map_cons, List.map_nil]); first | done | rfl | (simp only [List.length_drop, List.length_take]; rfl)) ?_
      with_reducible refine (impl_Ring_slot.calls a1_0 a1_1 a1_2 a1_3 a1_4 a1_5 1 t220 _ A29.out).mono ?_
      rintro e w34 ⟨rfl, hb⟩
      refine ⟨_, rfl, ?_⟩
      replace HO218 := Aside0.mk (Kd.V_below (by (with_reducible repeat (first | apply Kd.V_alloc | apply Kd.V_drewN | apply Kd.V_drew)); exact HO218.out) hb)
      replace BK212 := zb0 BK212 hb
      replace BK213 := zb0 BK213 hb
      replace BK214 := zb0 BK214 hb
      replace HB := zhs HB hb
      (try clear hb)
      (try clear hb2)
      (try clear hk)
      (try clear hi)
      refine hK.out _ _ ⟨zc0 BK213 0 rfl, zc0 BK213 1 rfl, zc0 BK213 2 rfl, zc0 BK213 3 rfl, zc0 BK213 4 rfl, zc0 BK213 5 rfl⟩ (fun hHeld => ?_)
      clear hK K
      refine norm_ (a' := ?_) ?_ ?_
      rotate_left
      ·show Act.put _ (some 30) _ = _
       simp only [Act.put, zp1, zp2, zp3, i64_w, i32_w]
       rfl
      refine pure_ (i := 8) (N := some 34) (v := ?_) (a' := ?_) #[true, true, true, true, true, true, true, true, true, false, false, false] rfl rfl (any_of HT_.out (by kernel_rfl)) (fun _ _ _ h => h) (Or.inl ⟨by rfl, ?_⟩) ?_ ?_
      rotate_left
      ·intro w'
       go_simp
       with_reducible rfl
      rotate_left
      ·simp only [Act.put, zp1, zp2, zp3, i64_w, i32_w]
       rfl
      refine pure_ (i := 9) (N := some 4) (v := ?_) (a' := ?_) #[true, true, true, true, true, true, true, true, true, true, false, false] rfl rfl (any_of HT_.out (by kernel_rfl)) (fun _ _ _ h => h) (Or.inl ⟨by rfl, ?_⟩) ?_ ?_
      rotate_left
      ·intro w'
       go_simp
       with_reducible rfl
      rotate_left
      ·simp only [Act.put, zp1, zp2, zp3, i64_w, i32_w]
       rfl
      refine one_ (i := 10) (N := none) #[true, true, true, true, true, true, true, true, true, true, true, false] rfl rfl (one_of HT_.out (by kernel_rfl)) (by decide) (fun K hK => ?_)
      have hs35 : w34.cell? ⟨gb214, 0, none⟩ = some (.int .i64 0) := zc0 BK214 0 rfl
      have hfs35 := blk_frozen BK214.out 0
      have hns35_0 := NB212_214.out
      have hns35_1 := NB213_214.out
      have hms35_0 := NB214_212.out
      have hms35_1 := NB214_213.out
      have hs36 : w34.cell? ⟨gb214, 1, none⟩ = some (.int .i64 0) := zc0 BK214 1 rfl
      have hfs36 := blk_frozen BK214.out 1
      have hns36_0 := NB212_214.out
      have hns36_1 := NB213_214.out
      have hms36_0 := NB214_212.out
      have hms36_1 := NB214_213.out
      have hs37 : w34.cell? ⟨gb214, 2, none⟩ = some (.int .i64 0) := zc0 BK214 2 rfl
      have hfs37 := blk_frozen BK214.out 2
      have hns37_0 := NB212_214.out
      have hns37_1 := NB213_214.out
      have hms37_0 := NB214_212.out
      have hms37_1 := NB214_213.out
      have hs38 : w34.cell? ⟨gb214, 3, none⟩ = some (.int .i64 0) := zc0 BK214 3 rfl
      have hfs38 := blk_frozen BK214.out 3
      have hns38_0 := NB212_214.out
      have hns38_1 := NB213_214.out
      have hms38_0 := NB214_212.out
      have hms38_1 := NB214_213.out
      have hs39 : w34.cell? ⟨gb214, 4, none⟩ = some (.int .i64 0) := zc0 BK214 4 rfl
      have hfs39 := blk_frozen BK214.out 4
      have hns39_0 := NB212_214.out
      have hns39_1 := NB213_214.out
      have hms39_0 := NB214_212.out
      have hms39_1 := NB214_213.out
      have hs40 : w34.cell? ⟨gb214, 5, none⟩ = some (.int .i64 0) := zc0 BK214 5 rfl
      have hfs40 := blk_frozen BK214.out 5
      have hns40_0 := NB212_214.out
      have hns40_1 := NB213_214.out
      have hms40_0 := NB214_212.out
      have hms40_1 := NB214_213.out
      refine skip_ (w1 := ?_) (by rfl) rfl ?_ ?_
      rotate_left
      ·go_simp
       rfl
      refine hK.out _ _ ⟨((cell_far (p := ⟨gb214, _, none⟩) NB213_214.out _).trans (((cell_far (p := ⟨gb214, _, none⟩) NB213_214.out _).trans (((cell_far (p := ⟨gb214, _, none⟩) NB213_214.out _).trans (((cell_far (p := ⟨gb214, _, none⟩) NB213_214.out _).trans (((cell_far (p := ⟨gb214, _, none⟩) NB213_214.out _).trans (((cell_far (p := ⟨gb214, _, none⟩) NB213_214.out _).trans (hHeld.1)))))))))))), ((cell_far (p := ⟨gb214, _, none⟩) NB213_214.out _).trans (((cell_far (p := ⟨gb214, _, none⟩) NB213_214.out _).trans (((cell_far (p := ⟨gb214, _, none⟩) NB213_214.out _).trans (((cell_far (p := ⟨gb214, _, none⟩) NB213_214.out _).trans (((cell_far (p := ⟨gb214, _, none⟩) NB213_214.out _).trans (((cell_far (p := ⟨gb214, _, none⟩) NB213_214.out _).trans (hHeld.2.1)))))))))))), ((cell_far (p := ⟨gb214, _, none⟩) NB213_214.out _).trans (((cell_far (p := ⟨gb214, _, none⟩) NB213_214.out _).trans (((cell_far (p := ⟨gb214, _, none⟩) NB213_214.out _).trans (((cell_far (p := ⟨gb214, _, none⟩) NB213_214.out _).trans (((cell_far (p := ⟨gb214, _, none⟩) NB213_214.out _).trans (((cell_far (p := ⟨gb214, _, none⟩) NB213_214.out _).trans (hHeld.2.2.1)))))))))))), ((cell_far (p := ⟨gb214, _, none⟩) NB213_214.out _).trans (((cell_far (p := ⟨gb214, _, none⟩) NB213_214.out _).trans (((cell_far (p := ⟨gb214, _, none⟩) NB213_214.out _).trans (((cell_far (p := ⟨gb214, _, none⟩) NB213_214.out _).trans (((cell_far (p := ⟨gb214, _, none⟩) NB213_214.out _).trans (((cell_far (p := ⟨gb214, _, none⟩) NB213_214.out _).trans (hHeld.2.2.2.1)))))))))))), ((cell_far (p := ⟨gb214, _, none⟩) NB213_214.out _).trans (((cell_far (p := ⟨gb214, _, none⟩) NB213_214.out _).trans (((cell_far (p := ⟨gb214, _, none⟩) NB213_214.out _).trans (((cell_far (p := ⟨gb214, _, none⟩) NB213_214.out _).trans (((cell_far (p := ⟨gb214, _, none⟩) NB213_214.out _).trans (((cell_far (p := ⟨gb214, _, none⟩) NB213_214.out _).trans (hHeld.2.2.2.2.1)))))))))))), ((cell_far (p := ⟨gb214, _, none⟩) NB213_214.out _).trans (((cell_far (p := ⟨gb214, _, none⟩) NB213_214.out _).trans (((cell_far (p := ⟨gb214, _, none⟩) NB213_214.out _).trans (((cell_far (p := ⟨gb214, _, none⟩) NB213_214.out _).trans (((cell_far (p := ⟨gb214, _, none⟩) NB213_214.out _).trans (((cell_far (p := ⟨gb214, _, none⟩) NB213_214.out _).trans (hHeld.2.2.2.2.2))))))))))))⟩ (fun hHeld => ?_)
      clear hK K
      refine pure_ (i := 11) (N := some 6) (v := ?_) (a' := ?_) #[true, true, true, true, true, true, true, true, true, true, true, true] rfl rfl (any_of HT_.out (by kernel_rfl)) (fun _ _ _ h => h) (Or.inl ⟨by rfl, ?_⟩) ?_ ?_
      rotate_left
      ·intro w'
       go_simp
       with_reducible rfl
      rotate_left
      ·simp only [Act.put, zp1, zp2, zp3, i64_w, i32_w]
       rfl
      refine done_ (done_of HT_.out (by kernel_rfl)) ?_
      try go_wp2
      refine bodyPost_ret (results_list (rs := [.tmp 4, .cell 5 36, .tmp 6]) rfl (by simp) (.tmp (.cell gb214 36 #[.int .i64 a1_0, .int .i64 a1_1, .int .i64 a1_2, .int .i64 a1_3, .int .i64 t220, .int .i64 (wrap64 (a1_5 - 1))] (0, 0) _ rfl (by (with_reducible repeat (first | refine blk_drewN ?_ _ | refine blk_drew ?_ | refine blk_alloc ?_ _)); refine blk_put (cs := #[.int .i64 a1_0, .int .i64 a1_1, .int .i64 a1_2, .int .i64 a1_3, .int .i64 t220, .int .i64 0]) ?_ 5 _ rfl; (with_reducible repeat (first | refine blk_drewN ?_ _ | refine blk_drew ?_ | refine blk_alloc ?_ _)); refine blk_put (cs := #[.int .i64 a1_0, .int .i64 a1_1, .int .i64 a1_2, .int .i64 a1_3, .int .i64 0, .int .i64 0]) ?_ 4 _ rfl; (with_reducible repeat (first | refine blk_drewN ?_ _ | refine blk_drew ?_ | refine blk_alloc ?_ _)); refine blk_put (cs := #[.int .i64 a1_0, .int .i64 a1_1, .int .i64 a1_2, .int .i64 0, .int .i64 0, .int .i64 0]) ?_ 3 _ rfl; (with_reducible repeat (first | refine blk_drewN ?_ _ | refine blk_drew ?_ | refine blk_alloc ?_ _)); refine blk_put (cs := #[.int .i64 a1_0, .int .i64 a1_1, .int .i64 0, .int .i64 0, .int .i64 0, .int .i64 0]) ?_ 2 _ rfl; (with_reducible repeat (first | refine blk_drewN ?_ _ | refine blk_drew ?_ | refine blk_alloc ?_ _)); refine blk_put (cs := #[.int .i64 a1_0, .int .i64 0, .int .i64 0, .int .i64 0, .int .i64 0, .int .i64 0]) ?_ 1 _ rfl; (with_reducible repeat (first | refine blk_drewN ?_ _ | refine blk_drew ?_ | refine blk_alloc ?_ _)); refine blk_put (cs := #[.int .i64 0, .int .i64 0, .int .i64 0, .int .i64 0, .int .i64 0, .int .i64 0]) ?_ 0 _ rfl; (with_reducible repeat (first | refine blk_drewN ?_ _ | refine blk_drew ?_ | refine blk_alloc ?_ _)); exact BK214.out) Try.underlying36 rfl (by kernel_rfl) (.tmp .nil)))) rfl ?_
      exact ⟨by first | rfl | (simp [errW_none, errW_some] <;> rfl) | (simp [*, errW_none, errW_some] <;> rfl), by repeat (first | (with_reducible first | exact HB.out | apply below_alloc | apply pw_below_drewN | apply below_drew1 | refine below_set ?_ GE212.out | refine below_set ?_ GE213.out | refine below_set ?_ GE214.out) | exact HB.out)⟩
     ·rw [if_neg c28] at H
      exact absurd H (by simp)
    ·rw [if_neg c27] at H
     exact absurd H (by simp)

end Go.Proofs.Ytdojnaghcfhadaa.PFnExactPopFront
