/- What is proved here: each Go function that is named below answers, and leaves memory, as the theorem of its name says; no condition beyond those that each theorem states. Laid by this session's own program (wip/driver.py) over the kit's print. -/
import Derived.Test.YtkifenbcepicjabPFnExactBestOrderx0
import Derived.Test.YtkifenbcepicjabPFnExactBestOrderx2
namespace Go.Proofs.Ytkifenbcepicjab.PFnExactBestOrder
open Go.RowKit Go.Proofs.YtkifenbcepicjabW.PrintWords Go.Proofs.YtkifenbcepicjabW.PrintLast Go.Proofs.YtkifenbcepicjabW.PrintMore
attribute [local go_sem] max2_int min2_int max_two min_two max_three min_three max_four min_four   -- for this text's walks alone
set_option linter.unusedVariables false
set_option linter.unusedSimpArgs false

open Go.Proofs.Ytkifenbcepicjab.Cp
/-! ### spec_l8Arena: function 49 -/
mutual
def spec_l8Arena.j0 : Nat → Bool → List (List Int) → Int → Int → Int → Int → Int → List Int → Option (Bool)
 | 0, _, _, _, _, _, _, _, _ => none
 | k + 1, x24, x180000, x180001, x180002, x180003, x180004, x180005, x180006 => if x24 = true then (some false) else (spec_l8Arena.l0 k 0 x180000 x180001 x180002 x180003 x180004 x180005 x180006)
def spec_l8Arena.l0 : Nat → Int → List (List Int) → Int → Int → Int → Int → Int → List Int → Option (Bool)
 | 0, _, _, _, _, _, _, _, _ => none
 | k + 1, x3, x180000, x180001, x180002, x180003, x180004, x180005, x180006 => if x3 < (x180006.length : Int) then (if 0 ≤ x3 then ((spec_l1In.f (rd x180006 x3) 0 x180005).bind fun t183 => (if t183 = true then (if x3 > 0 then (if 0 ≤ (wrap64 (x3 - 1)) then (if (wrap64 (x3 - 1)) < (x180006.length : Int) then (if (rd x180006 (wrap64 (x3 - 1))) > (rd x180006 x3) then (some false) else (spec_l8Arena.l0 k (wrap64 (x3 + 1)) x180000 x180001 x180002 x180003 x180004 x180005 x180006)) else (none)) else (none)) else (spec_l8Arena.l0 k (wrap64 (x3 + 1)) x180000 x180001 x180002 x180003 x180004 x180005 x180006)) else (some false))) else (none)) else (some true)
end
def spec_l8Arena.f (k : Nat) (l0_0 : List (List Int)) (a0_1 : Int) (a0_2 : Int) (a0_3 : Int) (a0_4 : Int) (a0_5 : Int) (l0_6 : List Int) : Option (Bool) := (spec_l2Window.f k l0_0 a0_1 a0_2 a0_3 a0_4).bind fun t180 => (if t180 = true then ((spec_l1In.f a0_5 0 a0_3).bind fun t181 => (if t181 = true then (spec_l8Arena.j0 k (decide ((l0_6.length : Int) > 8)) l0_0 a0_1 a0_2 a0_3 a0_4 a0_5 l0_6) else (spec_l8Arena.j0 k true l0_0 a0_1 a0_2 a0_3 a0_4 a0_5 l0_6))) else (spec_l8Arena.j0 k true l0_0 a0_1 a0_2 a0_3 a0_4 a0_5 l0_6))
theorem spec_l8Arena.mono_l : ∀ k, (∀ y0 y1 y2 y3 y4 y5 y6 y7, LeO (spec_l8Arena.j0 k y0 y1 y2 y3 y4 y5 y6 y7) (spec_l8Arena.j0 (k + 1) y0 y1 y2 y3 y4 y5 y6 y7)) ∧ (∀ y0 y1 y2 y3 y4 y5 y6 y7, LeO (spec_l8Arena.l0 k y0 y1 y2 y3 y4 y5 y6 y7) (spec_l8Arena.l0 (k + 1) y0 y1 y2 y3 y4 y5 y6 y7))
 | 0 => ⟨fun _ _ _ _ _ _ _ _ r h => by simp [spec_l8Arena.j0] at h, fun _ _ _ _ _ _ _ _ r h => by simp [spec_l8Arena.l0] at h⟩
 | k + 1 => by
  obtain ⟨ih0, ih1⟩ := spec_l8Arena.mono_l k
  refine ⟨?_, ?_⟩
  ·intro y0 y1 y2 y3 y4 y5 y6 y7
   unfold spec_l8Arena.j0
   repeat' first
   | (with_reducible exact ih0 _ _ _ _ _ _ _ _)
   | (with_reducible exact ih1 _ _ _ _ _ _ _ _)
   | (with_reducible exact spec_l2Window.mono _ _ _ _ _ _)
   | (with_reducible exact LeO.refl _)
   | (with_reducible exact LeO.none _)
   | (with_reducible refine LeO.ite ?_ ?_)
   | (with_reducible refine LeO.bind ?_ (fun _ => ?_))
   | exact ih0 _ _ _ _ _ _ _ _
   | exact ih1 _ _ _ _ _ _ _ _
   | exact spec_l2Window.mono _ _ _ _ _ _
   | exact LeO.none _
   | refine LeO.ite ?_ ?_
   | refine LeO.bind ?_ (fun _ => ?_)
  ·intro y0 y1 y2 y3 y4 y5 y6 y7
   unfold spec_l8Arena.l0
   repeat' first
   | (with_reducible exact ih0 _ _ _ _ _ _ _ _)
   | (with_reducible exact ih1 _ _ _ _ _ _ _ _)
   | (with_reducible exact spec_l2Window.mono _ _ _ _ _ _)
   | (with_reducible exact LeO.refl _)
   | (with_reducible exact LeO.none _)
   | (with_reducible refine LeO.ite ?_ ?_)
   | (with_reducible refine LeO.bind ?_ (fun _ => ?_))
   | exact ih0 _ _ _ _ _ _ _ _
   | exact ih1 _ _ _ _ _ _ _ _
   | exact spec_l2Window.mono _ _ _ _ _ _
   | exact LeO.none _
   | refine LeO.ite ?_ ?_
   | refine LeO.bind ?_ (fun _ => ?_)
theorem spec_l8Arena.mono : ∀ a0 a1 a2 a3 a4 a5 a6 k, LeO (spec_l8Arena.f k a0 a1 a2 a3 a4 a5 a6) (spec_l8Arena.f (k + 1) a0 a1 a2 a3 a4 a5 a6) := by
 intro a0 a1 a2 a3 a4 a5 a6 k
 obtain ⟨ih0, ih1⟩ := spec_l8Arena.mono_l k
 unfold spec_l8Arena.f
 repeat' first
   | (with_reducible exact ih0 _ _ _ _ _ _ _ _)
   | (with_reducible exact ih1 _ _ _ _ _ _ _ _)
   | (with_reducible exact spec_l2Window.mono _ _ _ _ _ _)
   | (with_reducible exact LeO.refl _)
   | (with_reducible exact LeO.none _)
   | (with_reducible refine LeO.ite ?_ ?_)
   | (with_reducible refine LeO.bind ?_ (fun _ => ?_))
   | exact ih0 _ _ _ _ _ _ _ _
   | exact ih1 _ _ _ _ _ _ _ _
   | exact spec_l2Window.mono _ _ _ _ _ _
   | exact LeO.none _
   | refine LeO.ite ?_ ?_
   | refine LeO.bind ?_ (fun _ => ?_)
set_option maxHeartbeats 8000000 in
set_option maxRecDepth 100000 in
theorem spec_l8Arena.calls (k : Nat) (A0_0 : Option Addr) (c0_0 : Nat) (l0_0 : List (List Int)) (a0_1 : Int) (a0_2 : Int) (a0_3 : Int) (a0_4 : Int) (a0_5 : Int) (A0_6 : Option Addr) (c0_6 : Nat) (l0_6 : List Int) (r : Bool) (w : World) (hr0_0 : Kd.C (Kd.slice 5 (Kd.int .u8)) w A0_0 l0_0.length l0_0) (hc0_0 : l0_0.length ≤ c0_0) (hr0_6 : Kd.C (Kd.int .i64) w A0_6 l0_6.length l0_6) (hc0_6 : l0_6.length ≤ c0_6) (h : spec_l8Arena.f k l0_0 a0_1 a0_2 a0_3 a0_4 a0_5 l0_6 = some r) :
  Calls Try.prog 49 #[.agg #[.slice A0_0 l0_0.length c0_0, .int .i64 a0_1, .int .i64 a0_2, .int .i64 a0_3, .int .i64 a0_4, .int .i64 a0_5, .slice A0_6 l0_6.length c0_6]] w fun e w' => e = .returned (.bool r) ∧ Below w.heap.size w w' := by
 have hu38 := Try.underlying38
 have hu35 := Try.underlying35
 have hu36 := Try.underlying36
 have HR0_0 := Aside0.mk hr0_0
 have HC0_0 := Aside0.mk hc0_0
 clear hr0_0 hc0_0
 have HR0_6 := Aside0.mk hr0_6
 have HC0_6 := Aside0.mk hc0_6
 clear hr0_6 hc0_6
 have HB := Aside0.mk (Below.refl w.heap.size w)
 have H : ((spec_l2Window.f k l0_0 a0_1 a0_2 a0_3 a0_4).bind fun t180 => (if t180 = true then ((spec_l1In.f a0_5 0 a0_3).bind fun t181 => (if t181 = true then (spec_l8Arena.j0 k (decide ((l0_6.length : Int) > 8)) l0_0 a0_1 a0_2 a0_3 a0_4 a0_5 l0_6) else (spec_l8Arena.j0 k true l0_0 a0_1 a0_2 a0_3 a0_4 a0_5 l0_6))) else (spec_l8Arena.j0 k true l0_0 a0_1 a0_2 a0_3 a0_4 a0_5 l0_6))) = some r := h
 clear h
 have HC2 := Aside0.mk H
 clear H
 go_enter Try.func49, Try.ntmps49
 go_upto_region 1 with (first | ((with_reducible refine gate_dst (N := 1) rfl ?_); (try (refine gate_guard (by rfl) ?_; dsimp only)); refine box_event ?hg (N := 1) ?hd (cs := #[.slice A0_0 l0_0.length c0_0, .int .i64 a0_1, .int .i64 a0_2, .int .i64 a0_3, .int .i64 a0_4, .int .i64 a0_5, .slice A0_6 l0_6.length c0_6]) (t := 38) ?hr ?_; (case hd => rfl); (case hg => rfl); (case hr => first | (go_simp; done) | (go_simp; rfl)); intro gb179 hg w3 hbox hb; have BK179 := Aside0.mk (hbox); have GW179 := zge HB hg; have GE179 := zge HB hg; replace HB := zhs HB hb; clear hb hbox hg))
 repeat (go_quiet (first | ((with_reducible refine gate_dst (N := 1) rfl ?_); (try (refine gate_guard (by rfl) ?_; dsimp only)); refine box_event ?hg (N := 1) ?hd (cs := #[.slice A0_0 l0_0.length c0_0, .int .i64 a0_1, .int .i64 a0_2, .int .i64 a0_3, .int .i64 a0_4, .int .i64 a0_5, .slice A0_6 l0_6.length c0_6]) (t := 38) ?hr ?_; (case hd => rfl); (case hg => rfl); (case hr => first | (go_simp; done) | (go_simp; rfl)); intro gb179 hg w3 hbox hb; have BK179 := Aside0.mk (hbox); have GW179 := zge HB hg; have GE179 := zge HB hg; replace HB := zhs HB hb; clear hb hbox hg)); go_upto_region 1 with (first | ((with_reducible refine gate_dst (N := 1) rfl ?_); (try (refine gate_guard (by rfl) ?_; dsimp only)); refine box_event ?hg (N := 1) ?hd (cs := #[.slice A0_0 l0_0.length c0_0, .int .i64 a0_1, .int .i64 a0_2, .int .i64 a0_3, .int .i64 a0_4, .int .i64 a0_5, .slice A0_6 l0_6.length c0_6]) (t := 38) ?hr ?_; (case hd => rfl); (case hg => rfl); (case hr => first | (go_simp; done) | (go_simp; rfl)); intro gb179 hg w3 hbox hb; have BK179 := Aside0.mk (hbox); have GW179 := zge HB hg; have GE179 := zge HB hg; replace HB := zhs HB hb; clear hb hbox hg)))
 (try simp only [Act.put, zp1, zp2, zp3])
 go_cut [24] (fun v24 wc => ∃ (kq : Nat) (x24_1 : Bool), v24 = .bool x24_1 ∧ Aside0 (spec_l8Arena.j0 kq x24_1 l0_0 a0_1 a0_2 a0_3 a0_4 a0_5 l0_6 = some r) ∧ Aside0 (kq ≤ k) ∧ Aside0 (wc.heap[gb179]? = some (.cells #[(.slice A0_0 l0_0.length c0_0), .int .i64 a0_1, .int .i64 a0_2, .int .i64 a0_3, .int .i64 a0_4, .int .i64 a0_5, (.slice A0_6 l0_6.length c0_6)] 38 (0, 0))) ∧ Aside0 (Below w.heap.size w wc))
 case first =>
  have H := HC2.out
  clear HC2
  replace H := Option.bind_eq_some_iff.mp H
  obtain ⟨t180, A40, H⟩ := H
  replace H : (if t180 = true then ((spec_l1In.f a0_5 0 a0_3).bind fun t181 => (if t181 = true then (spec_l8Arena.j0 k (decide ((l0_6.length : Int) > 8)) l0_0 a0_1 a0_2 a0_3 a0_4 a0_5 l0_6) else (spec_l8Arena.j0 k true l0_0 a0_1 a0_2 a0_3 a0_4 a0_5 l0_6))) else (spec_l8Arena.j0 k true l0_0 a0_1 a0_2 a0_3 a0_4 a0_5 l0_6)) = some r := H
  have A4 := Aside0.mk A40
  clear A40
  by_cases c5 : t180 = true
  ·subst c5
   have H1 : ((spec_l1In.f a0_5 0 a0_3).bind fun t181 => (if t181 = true then (spec_l8Arena.j0 k (decide ((l0_6.length : Int) > 8)) l0_0 a0_1 a0_2 a0_3 a0_4 a0_5 l0_6) else (spec_l8Arena.j0 k true l0_0 a0_1 a0_2 a0_3 a0_4 a0_5 l0_6))) = some r := by rw [if_pos rfl] at H; exact H
   clear H
   have H := H1
   clear H1
   replace H := Option.bind_eq_some_iff.mp H
   obtain ⟨t181, A60, H⟩ := H
   replace H : (if t181 = true then (spec_l8Arena.j0 k (decide ((l0_6.length : Int) > 8)) l0_0 a0_1 a0_2 a0_3 a0_4 a0_5 l0_6) else (spec_l8Arena.j0 k true l0_0 a0_1 a0_2 a0_3 a0_4 a0_5 l0_6)) = some r := H
   have A6 := Aside0.mk A60
   clear A60
   by_cases c7 : t181 = true
   ·subst c7
    have H1 : (spec_l8Arena.j0 k (decide ((l0_6.length : Int) > 8)) l0_0 a0_1 a0_2 a0_3 a0_4 a0_5 l0_6) = some r := by rw [if_pos rfl] at H; exact H
    clear H
    have H := H1
    clear H1
    have H' := Aside0.mk H
    clear H
    have hcz8_0 := zc0 BK179 0 rfl
    have hcz8_1 := zc0 BK179 1 rfl
    have hcz8_2 := zc0 BK179 2 rfl
    have hcz8_3 := zc0 BK179 3 rfl
    have hcz8_4 := zc0 BK179 4 rfl
    have hcz8_5 := zc0 BK179 5 rfl
    have hcz8_6 := zc0 BK179 6 rfl
    have hfz8_0 := blk_frozen BK179.out 0
    have hfz8_1 := blk_frozen BK179.out 1
    have hfz8_2 := blk_frozen BK179.out 2
    have hfz8_3 := blk_frozen BK179.out 3
    have hfz8_4 := blk_frozen BK179.out 4
    have hfz8_5 := blk_frozen BK179.out 5
    have hfz8_6 := blk_frozen BK179.out 6
    go_wp2_with (first | (go_at_call 50; (with_reducible refine (spec_l2Window.calls k _ _ l0_0 a0_1 a0_2 a0_3 a0_4 true _ ?side1 ?side2 A4.out).mono ?_); (case side1 => exact Kd.C_below HR0_0.out (zh0 HB)); (case side2 => exact HC0_0.out); rintro e w9 ⟨rfl, hb⟩; replace BK179 := zb0 BK179 hb; replace HB := zhs HB hb; (try clear hb); have hcz10_0 := zc0 BK179 0 rfl; have hcz10_1 := zc0 BK179 1 rfl; have hcz10_2 := zc0 BK179 2 rfl; have hcz10_3 := zc0 BK179 3 rfl; have hcz10_4 := zc0 BK179 4 rfl; have hcz10_5 := zc0 BK179 5 rfl; have hcz10_6 := zc0 BK179 6 rfl; have hfz10_0 := blk_frozen BK179.out 0; have hfz10_1 := blk_frozen BK179.out 1; have hfz10_2 := blk_frozen BK179.out 2; have hfz10_3 := blk_frozen BK179.out 3; have hfz10_4 := blk_frozen BK179.out 4; have hfz10_5 := blk_frozen BK179.out 5; have hfz10_6 := blk_frozen BK179.out 6) | (go_at_call 92; (with_reducible refine (spec_l1In.calls a0_5 0 a0_3 true _ A6.out).mono ?_); rintro e w' ⟨rfl, ⟨nd, rfl⟩⟩; (try first | exact ⟨rfl, _, World.drewN_drewN _ _ _⟩ | exact ⟨rfl, _, Eq.trans (World.drewN_drewN _ _ _) (congrArg (World.drewN _) (Nat.add_assoc _ _ _))⟩)))
    repeat (go_quiet (first | (go_at_call 50; (with_reducible refine (spec_l2Window.calls k _ _ l0_0 a0_1 a0_2 a0_3 a0_4 true _ ?side1 ?side2 A4.out).mono ?_); (case side1 => exact Kd.C_below HR0_0.out (zh0 HB)); (case side2 => exact HC0_0.out); rintro e w9 ⟨rfl, hb⟩; replace BK179 := zb0 BK179 hb; replace HB := zhs HB hb; (try clear hb); have hcz10_0 := zc0 BK179 0 rfl; have hcz10_1 := zc0 BK179 1 rfl; have hcz10_2 := zc0 BK179 2 rfl; have hcz10_3 := zc0 BK179 3 rfl; have hcz10_4 := zc0 BK179 4 rfl; have hcz10_5 := zc0 BK179 5 rfl; have hcz10_6 := zc0 BK179 6 rfl; have hfz10_0 := blk_frozen BK179.out 0; have hfz10_1 := blk_frozen BK179.out 1; have hfz10_2 := blk_frozen BK179.out 2; have hfz10_3 := blk_frozen BK179.out 3; have hfz10_4 := blk_frozen BK179.out 4; have hfz10_5 := blk_frozen BK179.out 5; have hfz10_6 := blk_frozen BK179.out 6) | (go_at_call 92; (with_reducible refine (spec_l1In.calls a0_5 0 a0_3 true _ A6.out).mono ?_); rintro e w' ⟨rfl, ⟨nd, rfl⟩⟩; (try first | exact ⟨rfl, _, World.drewN_drewN _ _ _⟩ | exact ⟨rfl, _, Eq.trans (World.drewN_drewN _ _ _) (congrArg (World.drewN _) (Nat.add_assoc _ _ _))⟩))); try go_wp2_with (first | (go_at_call 50; (with_reducible refine (spec_l2Window.calls k _ _ l0_0 a0_1 a0_2 a0_3 a0_4 true _ ?side1 ?side2 A4.out).mono ?_); (case side1 => exact Kd.C_below HR0_0.out (zh0 HB)); (case side2 => exact HC0_0.out); rintro e w9 ⟨rfl, hb⟩; replace BK179 := zb0 BK179 hb; replace HB := zhs HB hb; (try clear hb); have hcz10_0 := zc0 BK179 0 rfl; have hcz10_1 := zc0 BK179 1 rfl; have hcz10_2 := zc0 BK179 2 rfl; have hcz10_3 := zc0 BK179 3 rfl; have hcz10_4 := zc0 BK179 4 rfl; have hcz10_5 := zc0 BK179 5 rfl; have hcz10_6 := zc0 BK179 6 rfl; have hfz10_0 := blk_frozen BK179.out 0; have hfz10_1 := blk_frozen BK179.out 1; have hfz10_2 := blk_frozen BK179.out 2; have hfz10_3 := blk_frozen BK179.out 3; have hfz10_4 := blk_frozen BK179.out 4; have hfz10_5 := blk_frozen BK179.out 5; have hfz10_6 := blk_frozen BK179.out 6) | (go_at_call 92; (with_reducible refine (spec_l1In.calls a0_5 0 a0_3 true _ A6.out).mono ?_); rintro e w' ⟨rfl, ⟨nd, rfl⟩⟩; (try first | exact ⟨rfl, _, World.drewN_drewN _ _ _⟩ | exact ⟨rfl, _, Eq.trans (World.drewN_drewN _ _ _) (congrArg (World.drewN _) (Nat.add_assoc _ _ _))⟩))))
    go_meet
    case rel => exact ⟨_, (decide ((l0_6.length : Int) > 8)), zfs, H', ⟨by first | omega | exact Nat.le_refl _⟩, ⟨zk0 BK179⟩, ⟨by repeat (first | exact zh0 HB | refine below_set ?_ GE179.out)⟩⟩
   ·replace c7 := Bool.eq_false_iff.mpr c7
    subst c7
    have H1 : (spec_l8Arena.j0 k true l0_0 a0_1 a0_2 a0_3 a0_4 a0_5 l0_6) = some r := by rw [if_neg (show ¬ (false = true) by decide)] at H; exact H
    clear H
    have H := H1
    clear H1
    have H' := Aside0.mk H
    clear H
    have hcz11_0 := zc0 BK179 0 rfl
    have hcz11_1 := zc0 BK179 1 rfl
    have hcz11_2 := zc0 BK179 2 rfl
    have hcz11_3 := zc0 BK179 3 rfl
    have hcz11_4 := zc0 BK179 4 rfl
    have hcz11_5 := zc0 BK179 5 rfl
    have hcz11_6 := zc0 BK179 6 rfl
    have hfz11_0 := blk_frozen BK179.out 0
    have hfz11_1 := blk_frozen BK179.out 1
    have hfz11_2 := blk_frozen BK179.out 2
    have hfz11_3 := blk_frozen BK179.out 3
    have hfz11_4 := blk_frozen BK179.out 4
    have hfz11_5 := blk_frozen BK179.out 5
    have hfz11_6 := blk_frozen BK179.out 6
    go_wp2_with (first | (go_at_call 50; (with_reducible refine (spec_l2Window.calls k _ _ l0_0 a0_1 a0_2 a0_3 a0_4 true _ ?side1 ?side2 A4.out).mono ?_); (case side1 => exact Kd.C_below HR0_0.out (zh0 HB)); (case side2 => exact HC0_0.out); rintro e w12 ⟨rfl, hb⟩; replace BK179 := zb0 BK179 hb; replace HB := zhs HB hb; (try clear hb); have hcz13_0 := zc0 BK179 0 rfl; have hcz13_1 := zc0 BK179 1 rfl; have hcz13_2 := zc0 BK179 2 rfl; have hcz13_3 := zc0 BK179 3 rfl; have hcz13_4 := zc0 BK179 4 rfl; have hcz13_5 := zc0 BK179 5 rfl; have hcz13_6 := zc0 BK179 6 rfl; have hfz13_0 := blk_frozen BK179.out 0; have hfz13_1 := blk_frozen BK179.out 1; have hfz13_2 := blk_frozen BK179.out 2; have hfz13_3 := blk_frozen BK179.out 3; have hfz13_4 := blk_frozen BK179.out 4; have hfz13_5 := blk_frozen BK179.out 5; have hfz13_6 := blk_frozen BK179.out 6) | (go_at_call 92; (with_reducible refine (spec_l1In.calls a0_5 0 a0_3 false _ A6.out).mono ?_); rintro e w' ⟨rfl, ⟨nd, rfl⟩⟩; (try first | exact ⟨rfl, _, World.drewN_drewN _ _ _⟩ | exact ⟨rfl, _, Eq.trans (World.drewN_drewN _ _ _) (congrArg (World.drewN _) (Nat.add_assoc _ _ _))⟩)))
    repeat (go_quiet (first | (go_at_call 50; (with_reducible refine (spec_l2Window.calls k _ _ l0_0 a0_1 a0_2 a0_3 a0_4 true _ ?side1 ?side2 A4.out).mono ?_); (case side1 => exact Kd.C_below HR0_0.out (zh0 HB)); (case side2 => exact HC0_0.out); rintro e w12 ⟨rfl, hb⟩; replace BK179 := zb0 BK179 hb; replace HB := zhs HB hb; (try clear hb); have hcz13_0 := zc0 BK179 0 rfl; have hcz13_1 := zc0 BK179 1 rfl; have hcz13_2 := zc0 BK179 2 rfl; have hcz13_3 := zc0 BK179 3 rfl; have hcz13_4 := zc0 BK179 4 rfl; have hcz13_5 := zc0 BK179 5 rfl; have hcz13_6 := zc0 BK179 6 rfl; have hfz13_0 := blk_frozen BK179.out 0; have hfz13_1 := blk_frozen BK179.out 1; have hfz13_2 := blk_frozen BK179.out 2; have hfz13_3 := blk_frozen BK179.out 3; have hfz13_4 := blk_frozen BK179.out 4; have hfz13_5 := blk_frozen BK179.out 5; have hfz13_6 := blk_frozen BK179.out 6) | (go_at_call 92; (with_reducible refine (spec_l1In.calls a0_5 0 a0_3 false _ A6.out).mono ?_); rintro e w' ⟨rfl, ⟨nd, rfl⟩⟩; (try first | exact ⟨rfl, _, World.drewN_drewN _ _ _⟩ | exact ⟨rfl, _, Eq.trans (World.drewN_drewN _ _ _) (congrArg (World.drewN _) (Nat.add_assoc _ _ _))⟩))); try go_wp2_with (first | (go_at_call 50; (with_reducible refine (spec_l2Window.calls k _ _ l0_0 a0_1 a0_2 a0_3 a0_4 true _ ?side1 ?side2 A4.out).mono ?_); (case side1 => exact Kd.C_below HR0_0.out (zh0 HB)); (case side2 => exact HC0_0.out); rintro e w12 ⟨rfl, hb⟩; replace BK179 := zb0 BK179 hb; replace HB := zhs HB hb; (try clear hb); have hcz13_0 := zc0 BK179 0 rfl; have hcz13_1 := zc0 BK179 1 rfl; have hcz13_2 := zc0 BK179 2 rfl; have hcz13_3 := zc0 BK179 3 rfl; have hcz13_4 := zc0 BK179 4 rfl; have hcz13_5 := zc0 BK179 5 rfl; have hcz13_6 := zc0 BK179 6 rfl; have hfz13_0 := blk_frozen BK179.out 0; have hfz13_1 := blk_frozen BK179.out 1; have hfz13_2 := blk_frozen BK179.out 2; have hfz13_3 := blk_frozen BK179.out 3; have hfz13_4 := blk_frozen BK179.out 4; have hfz13_5 := blk_frozen BK179.out 5; have hfz13_6 := blk_frozen BK179.out 6) | (go_at_call 92; (with_reducible refine (spec_l1In.calls a0_5 0 a0_3 false _ A6.out).mono ?_); rintro e w' ⟨rfl, ⟨nd, rfl⟩⟩; (try first | exact ⟨rfl, _, World.drewN_drewN _ _ _⟩ | exact ⟨rfl, _, Eq.trans (World.drewN_drewN _ _ _) (congrArg (World.drewN _) (Nat.add_assoc _ _ _))⟩))))
    go_meet
    case rel => exact ⟨_, (true), zfs, H', ⟨by first | omega | exact Nat.le_refl _⟩, ⟨zk0 BK179⟩, ⟨by repeat (first | exact zh0 HB | refine below_set ?_ GE179.out)⟩⟩
  ·replace c5 := Bool.eq_false_iff.mpr c5
   subst c5
   have H1 : (spec_l8Arena.j0 k true l0_0 a0_1 a0_2 a0_3 a0_4 a0_5 l0_6) = some r := by rw [if_neg (show ¬ (false = true) by decide)] at H; exact H
   clear H
   have H := H1
   clear H1
   have H' := Aside0.mk H
   clear H
   have hcz14_0 := zc0 BK179 0 rfl
   have hcz14_1 := zc0 BK179 1 rfl
   have hcz14_2 := zc0 BK179 2 rfl
   have hcz14_3 := zc0 BK179 3 rfl
   have hcz14_4 := zc0 BK179 4 rfl
   have hcz14_5 := zc0 BK179 5 rfl
   have hcz14_6 := zc0 BK179 6 rfl
   have hfz14_0 := blk_frozen BK179.out 0
   have hfz14_1 := blk_frozen BK179.out 1
   have hfz14_2 := blk_frozen BK179.out 2
   have hfz14_3 := blk_frozen BK179.out 3
   have hfz14_4 := blk_frozen BK179.out 4
   have hfz14_5 := blk_frozen BK179.out 5
   have hfz14_6 := blk_frozen BK179.out 6
   go_wp2_with (first | (go_at_call 50; (with_reducible refine (spec_l2Window.calls k _ _ l0_0 a0_1 a0_2 a0_3 a0_4 false _ ?side1 ?side2 A4.out).mono ?_); (case side1 => exact Kd.C_below HR0_0.out (zh0 HB)); (case side2 => exact HC0_0.out); rintro e w15 ⟨rfl, hb⟩; replace BK179 := zb0 BK179 hb; replace HB := zhs HB hb; (try clear hb)))
   repeat (go_quiet (first | (go_at_call 50; (with_reducible refine (spec_l2Window.calls k _ _ l0_0 a0_1 a0_2 a0_3 a0_4 false _ ?side1 ?side2 A4.out).mono ?_); (case side1 => exact Kd.C_below HR0_0.out (zh0 HB)); (case side2 => exact HC0_0.out); rintro e w15 ⟨rfl, hb⟩; replace BK179 := zb0 BK179 hb; replace HB := zhs HB hb; (try clear hb))); try go_wp2_with (first | (go_at_call 50; (with_reducible refine (spec_l2Window.calls k _ _ l0_0 a0_1 a0_2 a0_3 a0_4 false _ ?side1 ?side2 A4.out).mono ?_); (case side1 => exact Kd.C_below HR0_0.out (zh0 HB)); (case side2 => exact HC0_0.out); rintro e w15 ⟨rfl, hb⟩; replace BK179 := zb0 BK179 hb; replace HB := zhs HB hb; (try clear hb))))
   go_meet
   case rel => exact ⟨_, (true), zfs, H', ⟨by first | omega | exact Nat.le_refl _⟩, ⟨zk0 BK179⟩, ⟨by repeat (first | exact zh0 HB | refine below_set ?_ GE179.out)⟩⟩
 case rest =>
  clear HC2
  try clear p2
  try clear c4
  try clear c5
  try clear c7
  try clear hcz10_0
  try clear hcz10_1
  try clear hcz10_2
  try clear hcz10_3
  try clear hcz10_4
  try clear hcz10_5
  try clear hcz10_6
  try clear hcz11_0
  try clear hcz11_1
  try clear hcz11_2
  try clear hcz11_3
  try clear hcz11_4
  try clear hcz11_5
  try clear hcz11_6
  try clear hcz13_0
  try clear hcz13_1
  try clear hcz13_2
  try clear hcz13_3
  try clear hcz13_4
  try clear hcz13_5
  try clear hcz13_6
  try clear hcz14_0
  try clear hcz14_1
  try clear hcz14_2
  try clear hcz14_3
  try clear hcz14_4
  try clear hcz14_5
  try clear hcz14_6
  try clear hcz8_0
  try clear hcz8_1
  try clear hcz8_2
  try clear hcz8_3
  try clear hcz8_4
  try clear hcz8_5
  try clear hcz8_6
  try clear hfz10_0
  try clear hfz10_1
  try clear hfz10_2
  try clear hfz10_3
  try clear hfz10_4
  try clear hfz10_5
  try clear hfz10_6
  try clear hfz11_0
  try clear hfz11_1
  try clear hfz11_2
  try clear hfz11_3
  try clear hfz11_4
  try clear hfz11_5
  try clear hfz11_6
  try clear hfz13_0
  try clear hfz13_1
  try clear hfz13_2
  try clear hfz13_3
  try clear hfz13_4
  try clear hfz13_5
  try clear hfz13_6
  try clear hfz14_0
  try clear hfz14_1
  try clear hfz14_2
  try clear hfz14_3
  try clear hfz14_4
  try clear hfz14_5
  try clear hfz14_6
  try clear hfz8_0
  try clear hfz8_1
  try clear hfz8_2
  try clear hfz8_3
  try clear hfz8_4
  try clear hfz8_5
  try clear hfz8_6
  obtain ⟨kq, x24_1, rfl, HA, HJ1, BK179, HB⟩ := hcut
  cases kq with
  | zero => exact absurd HA.out (by simp [spec_l8Arena.j0])
  | succ kj1 =>
   have H := HA.out
   clear HA
   simp only [spec_l8Arena.j0] at H
   by_cases c16 : x24_1 = true
   ·subst c16
    have H1 : (some false) = some r := by rw [if_pos rfl] at H; exact H
    clear H
    have H := H1
    clear H1
    obtain rfl := Option.some.inj H
    go_wp2
    repeat (go_quiet (fail); try go_wp2)
    go_ret
    exact ⟨zfr, by repeat (first | exact zh0 HB | refine below_set ?_ GE179.out)⟩
   ·replace c16 := Bool.eq_false_iff.mpr c16
    subst c16
    have H1 : (spec_l8Arena.l0 kj1 0 l0_0 a0_1 a0_2 a0_3 a0_4 a0_5 l0_6) = some r := by rw [if_neg (show ¬ (false = true) by decide)] at H; exact H
    clear H
    have H := H1
    clear H1
    have H' := Aside0.mk H
    clear H
    go_wp2
    repeat (go_quiet (fail); try go_wp2)
    go_loopg [3] kj1 (fun kq v3 w' => ∃ (x3_2 : Int), v3 = .int .i64 x3_2 ∧ Aside0 (spec_l8Arena.l0 kq x3_2 l0_0 a0_1 a0_2 a0_3 a0_4 a0_5 l0_6 = some r) ∧ Aside0 (kq ≤ kj1) ∧ Aside0 (w'.heap[gb179]? = some (.cells #[(.slice A0_0 l0_0.length c0_0), .int .i64 a0_1, .int .i64 a0_2, .int .i64 a0_3, .int .i64 a0_4, .int .i64 a0_5, (.slice A0_6 l0_6.length c0_6)] 38 (0, 0))) ∧ Aside0 (Below w.heap.size w w'))
    case atStart => exact ⟨(0), zfs, H', ⟨Nat.le_refl _⟩, ⟨zk0 BK179⟩, ⟨by repeat (first | exact zh0 HB | refine below_set ?_ GE179.out)⟩⟩
    case round =>
     clear H'
     try clear c1
     try clear p2
     try clear c4
     try clear c5
     try clear c7
     try clear c16
     try clear hcz10_0
     try clear hcz10_1
     try clear hcz10_2
     try clear hcz10_3
     try clear hcz10_4
     try clear hcz10_5
     try clear hcz10_6
     try clear hcz11_0
     try clear hcz11_1
     try clear hcz11_2
     try clear hcz11_3
     try clear hcz11_4
     try clear hcz11_5
     try clear hcz11_6
     try clear hcz13_0
     try clear hcz13_1
     try clear hcz13_2
     try clear hcz13_3
     try clear hcz13_4
     try clear hcz13_5
     try clear hcz13_6
     try clear hcz14_0
     try clear hcz14_1
     try clear hcz14_2
     try clear hcz14_3
     try clear hcz14_4
     try clear hcz14_5
     try clear hcz14_6
     try clear hcz8_0
     try clear hcz8_1
     try clear hcz8_2
     try clear hcz8_3
     try clear hcz8_4
     try clear hcz8_5
     try clear hcz8_6
     try clear hfz10_0
     try clear hfz10_1
     try clear hfz10_2
     try clear hfz10_3
     try clear hfz10_4
     try clear hfz10_5
     try clear hfz10_6
     try clear hfz11_0
     try clear hfz11_1
     try clear hfz11_2
     try clear hfz11_3
     try clear hfz11_4
     try clear hfz11_5
     try clear hfz11_6
     try clear hfz13_0
     try clear hfz13_1
     try clear hfz13_2
     try clear hfz13_3
     try clear hfz13_4
     try clear hfz13_5
     try clear hfz13_6
     try clear hfz14_0
     try clear hfz14_1
     try clear hfz14_2
     try clear hfz14_3
     try clear hfz14_4
     try clear hfz14_5
     try clear hfz14_6
     try clear hfz8_0
     try clear hfz8_1
     try clear hfz8_2
     try clear hfz8_3
     try clear hfz8_4
     try clear hfz8_5
     try clear hfz8_6
     try clear p2
     obtain ⟨x3_2, rfl, HA, HK2, BK179, HB⟩ := hrel
     cases gk with
     | zero => exact absurd HA.out (by simp [spec_l8Arena.l0])
     | succ k2 =>
      have H := HA.out
      clear HA
      simp only [spec_l8Arena.l0] at H
      by_cases c17 : x3_2 < (l0_6.length : Int)
      ·rw [if_pos c17] at H
       have c17b0 : decide (x3_2 < (l0_6.length : Int)) = true := decide_eq_true c17
       clear c17
       by_cases c18 : 0 ≤ x3_2
       ·rw [if_pos c18] at H
        have c18b0 : decide (0 ≤ x3_2) = true := decide_eq_true c18
        clear c18
        replace H := Option.bind_eq_some_iff.mp H
        obtain ⟨t183, A190, H⟩ := H
        replace H : (if t183 = true then (if x3_2 > 0 then (if 0 ≤ (wrap64 (x3_2 - 1)) then (if (wrap64 (x3_2 - 1)) < (l0_6.length : Int) then (if (rd l0_6 (wrap64 (x3_2 - 1))) > (rd l0_6 x3_2) then (some false) else (spec_l8Arena.l0 k2 (wrap64 (x3_2 + 1)) l0_0 a0_1 a0_2 a0_3 a0_4 a0_5 l0_6)) else (none)) else (none)) else (spec_l8Arena.l0 k2 (wrap64 (x3_2 + 1)) l0_0 a0_1 a0_2 a0_3 a0_4 a0_5 l0_6)) else (some false)) = some r := H
        have A19 := Aside0.mk A190
        clear A190
        by_cases c20 : t183 = true
        ·subst c20
         have H1 : (if x3_2 > 0 then (if 0 ≤ (wrap64 (x3_2 - 1)) then (if (wrap64 (x3_2 - 1)) < (l0_6.length : Int) then (if (rd l0_6 (wrap64 (x3_2 - 1))) > (rd l0_6 x3_2) then (some false) else (spec_l8Arena.l0 k2 (wrap64 (x3_2 + 1)) l0_0 a0_1 a0_2 a0_3 a0_4 a0_5 l0_6)) else (none)) else (none)) else (spec_l8Arena.l0 k2 (wrap64 (x3_2 + 1)) l0_0 a0_1 a0_2 a0_3 a0_4 a0_5 l0_6)) = some r := by rw [if_pos rfl] at H; exact H
         clear H
         have H := H1
         clear H1
         by_cases c21 : x3_2 > 0
         ·rw [if_pos c21] at H
          have c21b0 : decide (0 < x3_2) = true := decide_eq_true c21
          clear c21
          obtain ⟨ji22, hji22⟩ : ∃ j_ : Int, (wrap64 (x3_2 - 1)) = j_ := ⟨_, rfl⟩
          replace H : (if 0 ≤ (ji22) then (if (ji22) < (l0_6.length : Int) then (if (rd l0_6 (ji22)) > (rd l0_6 x3_2) then (some false) else (spec_l8Arena.l0 k2 (wrap64 (x3_2 + 1)) l0_0 a0_1 a0_2 a0_3 a0_4 a0_5 l0_6)) else (none)) else (none)) = some r := by first | (rw [hji22] at H; exact H) | (simp only [hji22] at H ⊢; exact H)
          (try rw [hji22] at A19)
          have hji22w : (IntKind.i64.wrap (x3_2 - 1)) = ji22 := (i64_w _).trans hji22
          by_cases c23 : 0 ≤ (ji22)
          ·rw [if_pos c23] at H
           have c23b0 : decide (0 ≤ (ji22)) = true := decide_eq_true c23
           clear c23
           by_cases c24 : (ji22) < (l0_6.length : Int)
           ·rw [if_pos c24] at H
            have c24b0 : decide ((ji22) < (l0_6.length : Int)) = true := decide_eq_true c24
            clear c24
            by_cases c25 : (rd l0_6 (ji22)) > (rd l0_6 x3_2)
            ·rw [if_pos c25] at H
             have c25b0 : decide ((rd l0_6 x3_2) < (rd l0_6 (ji22))) = true := decide_eq_true c25
             clear c25
             obtain rfl := Option.some.inj H
             have hcz26_0 := zc0 BK179 0 rfl
             have hcz26_1 := zc0 BK179 1 rfl
             have hcz26_2 := zc0 BK179 2 rfl
             have hcz26_3 := zc0 BK179 3 rfl
             have hcz26_4 := zc0 BK179 4 rfl
             have hcz26_5 := zc0 BK179 5 rfl
             have hcz26_6 := zc0 BK179 6 rfl
             have hfz26_0 := blk_frozen BK179.out 0
             have hfz26_1 := blk_frozen BK179.out 1
             have hfz26_2 := blk_frozen BK179.out 2
             have hfz26_3 := blk_frozen BK179.out 3
             have hfz26_4 := blk_frozen BK179.out 4
             have hfz26_5 := blk_frozen BK179.out 5
             have hfz26_6 := blk_frozen BK179.out 6
             have p182 : 0 ≤ (x3_2 : Int) := zod
             have q182 : x3_2 < (l0_6.length : Int) := zod
             obtain ⟨ad182, e182, hx182_0⟩ := Kd.at_int HR0_6.out x3_2 p182 q182
             cases e182
             replace hx182_0 := (HB.out.cell (World.block_lt_of_cell? w _ hx182_0)).trans hx182_0
             replace p182 := eq_true p182
             replace q182 := eq_true q182
             go_wp2_with (first | (go_at_call 92; (with_reducible refine (spec_l1In.calls (rd l0_6 x3_2) 0 a0_5 true _ A19.out).mono ?_); rintro e w' ⟨rfl, ⟨nd, rfl⟩⟩; (try first | exact ⟨rfl, _, World.drewN_drewN _ _ _⟩ | exact ⟨rfl, _, Eq.trans (World.drewN_drewN _ _ _) (congrArg (World.drewN _) (Nat.add_assoc _ _ _))⟩); have p184 : 0 ≤ ((ji22) : Int) := zod; have q184 : (ji22) < (l0_6.length : Int) := zod; obtain ⟨ad184, e184, hx184_0⟩ := Kd.at_int HR0_6.out (ji22) p184 q184; obtain rfl : ad182 = ad184 := (by injection e184); replace hx184_0 := (HB.out.cell (World.block_lt_of_cell? w _ hx184_0)).trans hx184_0; replace p184 := eq_true p184; replace q184 := eq_true q184; have p185 : 0 ≤ (x3_2 : Int) := zod; have q185 : x3_2 < (l0_6.length : Int) := zod; obtain ⟨ad185, e185, hx185_0⟩ := Kd.at_int HR0_6.out x3_2 p185 q185; obtain rfl : ad182 = ad185 := (by injection e185); replace hx185_0 := (HB.out.cell (World.block_lt_of_cell? w _ hx185_0)).trans hx185_0; replace p185 := eq_true p185; replace q185 := eq_true q185))
             repeat (go_quiet (first | (go_at_call 92; (with_reducible refine (spec_l1In.calls (rd l0_6 x3_2) 0 a0_5 true _ A19.out).mono ?_); rintro e w' ⟨rfl, ⟨nd, rfl⟩⟩; (try first | exact ⟨rfl, _, World.drewN_drewN _ _ _⟩ | exact ⟨rfl, _, Eq.trans (World.drewN_drewN _ _ _) (congrArg (World.drewN _) (Nat.add_assoc _ _ _))⟩); have p184 : 0 ≤ ((ji22) : Int) := zod; have q184 : (ji22) < (l0_6.length : Int) := zod; obtain ⟨ad184, e184, hx184_0⟩ := Kd.at_int HR0_6.out (ji22) p184 q184; obtain rfl : ad182 = ad184 := (by injection e184); replace hx184_0 := (HB.out.cell (World.block_lt_of_cell? w _ hx184_0)).trans hx184_0; replace p184 := eq_true p184; replace q184 := eq_true q184; have p185 : 0 ≤ (x3_2 : Int) := zod; have q185 : x3_2 < (l0_6.length : Int) := zod; obtain ⟨ad185, e185, hx185_0⟩ := Kd.at_int HR0_6.out x3_2 p185 q185; obtain rfl : ad182 = ad185 := (by injection e185); replace hx185_0 := (HB.out.cell (World.block_lt_of_cell? w _ hx185_0)).trans hx185_0; replace p185 := eq_true p185; replace q185 := eq_true q185)); try go_wp2_with (first | (go_at_call 92; (with_reducible refine (spec_l1In.calls (rd l0_6 x3_2) 0 a0_5 true _ A19.out).mono ?_); rintro e w' ⟨rfl, ⟨nd, rfl⟩⟩; (try first | exact ⟨rfl, _, World.drewN_drewN _ _ _⟩ | exact ⟨rfl, _, Eq.trans (World.drewN_drewN _ _ _) (congrArg (World.drewN _) (Nat.add_assoc _ _ _))⟩); have p184 : 0 ≤ ((ji22) : Int) := zod; have q184 : (ji22) < (l0_6.length : Int) := zod; obtain ⟨ad184, e184, hx184_0⟩ := Kd.at_int HR0_6.out (ji22) p184 q184; obtain rfl : ad182 = ad184 := (by injection e184); replace hx184_0 := (HB.out.cell (World.block_lt_of_cell? w _ hx184_0)).trans hx184_0; replace p184 := eq_true p184; replace q184 := eq_true q184; have p185 : 0 ≤ (x3_2 : Int) := zod; have q185 : x3_2 < (l0_6.length : Int) := zod; obtain ⟨ad185, e185, hx185_0⟩ := Kd.at_int HR0_6.out x3_2 p185 q185; obtain rfl : ad182 = ad185 := (by injection e185); replace hx185_0 := (HB.out.cell (World.block_lt_of_cell? w _ hx185_0)).trans hx185_0; replace p185 := eq_true p185; replace q185 := eq_true q185)))
             go_ret
             exact ⟨by first | rfl | (simp [errW_none, errW_some] <;> rfl) | (simp only [← hji22]; first | rfl | (simp [errW_none, errW_some] <;> rfl)) | (simp [*, errW_none, errW_some] <;> rfl), by repeat (first | exact zh0 HB | refine below_set ?_ GE179.out)⟩
            ·rw [if_neg c25] at H
             have c25b0 : decide ((rd l0_6 x3_2) < (rd l0_6 (ji22))) = false := decide_eq_false c25
             clear c25
             have H' := Aside0.mk H
             clear H
             have hcz27_0 := zc0 BK179 0 rfl
             have hcz27_1 := zc0 BK179 1 rfl
             have hcz27_2 := zc0 BK179 2 rfl
             have hcz27_3 := zc0 BK179 3 rfl
             have hcz27_4 := zc0 BK179 4 rfl
             have hcz27_5 := zc0 BK179 5 rfl
             have hcz27_6 := zc0 BK179 6 rfl
             have hfz27_0 := blk_frozen BK179.out 0
             have hfz27_1 := blk_frozen BK179.out 1
             have hfz27_2 := blk_frozen BK179.out 2
             have hfz27_3 := blk_frozen BK179.out 3
             have hfz27_4 := blk_frozen BK179.out 4
             have hfz27_5 := blk_frozen BK179.out 5
             have hfz27_6 := blk_frozen BK179.out 6
             have p182 : 0 ≤ (x3_2 : Int) := zod
             have q182 : x3_2 < (l0_6.length : Int) := zod
             obtain ⟨ad182, e182, hx182_0⟩ := Kd.at_int HR0_6.out x3_2 p182 q182
             cases e182
             replace hx182_0 := (HB.out.cell (World.block_lt_of_cell? w _ hx182_0)).trans hx182_0
             replace p182 := eq_true p182
             replace q182 := eq_true q182
             go_wp2_with (first | (go_at_call 92; (with_reducible refine (spec_l1In.calls (rd l0_6 x3_2) 0 a0_5 true _ A19.out).mono ?_); rintro e w' ⟨rfl, ⟨nd, rfl⟩⟩; (try first | exact ⟨rfl, _, World.drewN_drewN _ _ _⟩ | exact ⟨rfl, _, Eq.trans (World.drewN_drewN _ _ _) (congrArg (World.drewN _) (Nat.add_assoc _ _ _))⟩); have p184 : 0 ≤ ((ji22) : Int) := zod; have q184 : (ji22) < (l0_6.length : Int) := zod; obtain ⟨ad184, e184, hx184_0⟩ := Kd.at_int HR0_6.out (ji22) p184 q184; obtain rfl : ad182 = ad184 := (by injection e184); replace hx184_0 := (HB.out.cell (World.block_lt_of_cell? w _ hx184_0)).trans hx184_0; replace p184 := eq_true p184; replace q184 := eq_true q184; have p185 : 0 ≤ (x3_2 : Int) := zod; have q185 : x3_2 < (l0_6.length : Int) := zod; obtain ⟨ad185, e185, hx185_0⟩ := Kd.at_int HR0_6.out x3_2 p185 q185; obtain rfl : ad182 = ad185 := (by injection e185); replace hx185_0 := (HB.out.cell (World.block_lt_of_cell? w _ hx185_0)).trans hx185_0; replace p185 := eq_true p185; replace q185 := eq_true q185))
             repeat (go_quiet (first | (go_at_call 92; (with_reducible refine (spec_l1In.calls (rd l0_6 x3_2) 0 a0_5 true _ A19.out).mono ?_); rintro e w' ⟨rfl, ⟨nd, rfl⟩⟩; (try first | exact ⟨rfl, _, World.drewN_drewN _ _ _⟩ | exact ⟨rfl, _, Eq.trans (World.drewN_drewN _ _ _) (congrArg (World.drewN _) (Nat.add_assoc _ _ _))⟩); have p184 : 0 ≤ ((ji22) : Int) := zod; have q184 : (ji22) < (l0_6.length : Int) := zod; obtain ⟨ad184, e184, hx184_0⟩ := Kd.at_int HR0_6.out (ji22) p184 q184; obtain rfl : ad182 = ad184 := (by injection e184); replace hx184_0 := (HB.out.cell (World.block_lt_of_cell? w _ hx184_0)).trans hx184_0; replace p184 := eq_true p184; replace q184 := eq_true q184; have p185 : 0 ≤ (x3_2 : Int) := zod; have q185 : x3_2 < (l0_6.length : Int) := zod; obtain ⟨ad185, e185, hx185_0⟩ := Kd.at_int HR0_6.out x3_2 p185 q185; obtain rfl : ad182 = ad185 := (by injection e185); replace hx185_0 := (HB.out.cell (World.block_lt_of_cell? w _ hx185_0)).trans hx185_0; replace p185 := eq_true p185; replace q185 := eq_true q185)); try go_wp2_with (first | (go_at_call 92; (with_reducible refine (spec_l1In.calls (rd l0_6 x3_2) 0 a0_5 true _ A19.out).mono ?_); rintro e w' ⟨rfl, ⟨nd, rfl⟩⟩; (try first | exact ⟨rfl, _, World.drewN_drewN _ _ _⟩ | exact ⟨rfl, _, Eq.trans (World.drewN_drewN _ _ _) (congrArg (World.drewN _) (Nat.add_assoc _ _ _))⟩); have p184 : 0 ≤ ((ji22) : Int) := zod; have q184 : (ji22) < (l0_6.length : Int) := zod; obtain ⟨ad184, e184, hx184_0⟩ := Kd.at_int HR0_6.out (ji22) p184 q184; obtain rfl : ad182 = ad184 := (by injection e184); replace hx184_0 := (HB.out.cell (World.block_lt_of_cell? w _ hx184_0)).trans hx184_0; replace p184 := eq_true p184; replace q184 := eq_true q184; have p185 : 0 ≤ (x3_2 : Int) := zod; have q185 : x3_2 < (l0_6.length : Int) := zod; obtain ⟨ad185, e185, hx185_0⟩ := Kd.at_int HR0_6.out x3_2 p185 q185; obtain rfl : ad182 = ad185 := (by injection e185); replace hx185_0 := (HB.out.cell (World.block_lt_of_cell? w _ hx185_0)).trans hx185_0; replace p185 := eq_true p185; replace q185 := eq_true q185)))
             go_roundg k2
             case measure => have := HJ1.out; have := HK2.out; omega
             case rel => exact ⟨(wrap64 (x3_2 + 1)), zfs, H', ⟨by have := HJ1.out; have := HK2.out; omega⟩, ⟨zk0 BK179⟩, ⟨by repeat (first | exact zh0 HB | refine below_set ?_ GE179.out)⟩⟩
           ·rw [if_neg c24] at H
            exact absurd H (by simp)
          ·rw [if_neg c23] at H
           exact absurd H (by simp)
         ·rw [if_neg c21] at H
          have c21b0 : decide (0 < x3_2) = false := decide_eq_false c21
          clear c21
          have H' := Aside0.mk H
          clear H
          have hcz28_0 := zc0 BK179 0 rfl
          have hcz28_1 := zc0 BK179 1 rfl
          have hcz28_2 := zc0 BK179 2 rfl
          have hcz28_3 := zc0 BK179 3 rfl
          have hcz28_4 := zc0 BK179 4 rfl
          have hcz28_5 := zc0 BK179 5 rfl
          have hcz28_6 := zc0 BK179 6 rfl
          have hfz28_0 := blk_frozen BK179.out 0
          have hfz28_1 := blk_frozen BK179.out 1
          have hfz28_2 := blk_frozen BK179.out 2
          have hfz28_3 := blk_frozen BK179.out 3
          have hfz28_4 := blk_frozen BK179.out 4
          have hfz28_5 := blk_frozen BK179.out 5
          have hfz28_6 := blk_frozen BK179.out 6
          have p182 : 0 ≤ (x3_2 : Int) := zod
          have q182 : x3_2 < (l0_6.length : Int) := zod
          obtain ⟨ad182, e182, hx182_0⟩ := Kd.at_int HR0_6.out x3_2 p182 q182
          cases e182
          replace hx182_0 := (HB.out.cell (World.block_lt_of_cell? w _ hx182_0)).trans hx182_0
          replace p182 := eq_true p182
          replace q182 := eq_true q182
          go_wp2_with (first | (go_at_call 92; (with_reducible refine (spec_l1In.calls (rd l0_6 x3_2) 0 a0_5 true _ A19.out).mono ?_); rintro e w' ⟨rfl, ⟨nd, rfl⟩⟩; (try first | exact ⟨rfl, _, World.drewN_drewN _ _ _⟩ | exact ⟨rfl, _, Eq.trans (World.drewN_drewN _ _ _) (congrArg (World.drewN _) (Nat.add_assoc _ _ _))⟩)))
          repeat (go_quiet (first | (go_at_call 92; (with_reducible refine (spec_l1In.calls (rd l0_6 x3_2) 0 a0_5 true _ A19.out).mono ?_); rintro e w' ⟨rfl, ⟨nd, rfl⟩⟩; (try first | exact ⟨rfl, _, World.drewN_drewN _ _ _⟩ | exact ⟨rfl, _, Eq.trans (World.drewN_drewN _ _ _) (congrArg (World.drewN _) (Nat.add_assoc _ _ _))⟩))); try go_wp2_with (first | (go_at_call 92; (with_reducible refine (spec_l1In.calls (rd l0_6 x3_2) 0 a0_5 true _ A19.out).mono ?_); rintro e w' ⟨rfl, ⟨nd, rfl⟩⟩; (try first | exact ⟨rfl, _, World.drewN_drewN _ _ _⟩ | exact ⟨rfl, _, Eq.trans (World.drewN_drewN _ _ _) (congrArg (World.drewN _) (Nat.add_assoc _ _ _))⟩))))
          go_roundg k2
          case measure => have := HJ1.out; have := HK2.out; omega
          case rel => exact ⟨(wrap64 (x3_2 + 1)), zfs, H', ⟨by have := HJ1.out; have := HK2.out; omega⟩, ⟨zk0 BK179⟩, ⟨by repeat (first | exact zh0 HB | refine below_set ?_ GE179.out)⟩⟩
        ·replace c20 := Bool.eq_false_iff.mpr c20
         subst c20
         have H1 : (some false) = some r := by rw [if_neg (show ¬ (false = true) by decide)] at H; exact H
         clear H
         have H := H1
         clear H1
         obtain rfl := Option.some.inj H
         have hcz29_0 := zc0 BK179 0 rfl
         have hcz29_1 := zc0 BK179 1 rfl
         have hcz29_2 := zc0 BK179 2 rfl
         have hcz29_3 := zc0 BK179 3 rfl
         have hcz29_4 := zc0 BK179 4 rfl
         have hcz29_5 := zc0 BK179 5 rfl
         have hcz29_6 := zc0 BK179 6 rfl
         have hfz29_0 := blk_frozen BK179.out 0
         have hfz29_1 := blk_frozen BK179.out 1
         have hfz29_2 := blk_frozen BK179.out 2
         have hfz29_3 := blk_frozen BK179.out 3
         have hfz29_4 := blk_frozen BK179.out 4
         have hfz29_5 := blk_frozen BK179.out 5
         have hfz29_6 := blk_frozen BK179.out 6
         have p182 : 0 ≤ (x3_2 : Int) := zod
         have q182 : x3_2 < (l0_6.length : Int) := zod
         obtain ⟨ad182, e182, hx182_0⟩ := Kd.at_int HR0_6.out x3_2 p182 q182
         cases e182
         replace hx182_0 := (HB.out.cell (World.block_lt_of_cell? w _ hx182_0)).trans hx182_0
         replace p182 := eq_true p182
         replace q182 := eq_true q182
         go_wp2_with (first | (go_at_call 92; (with_reducible refine (spec_l1In.calls (rd l0_6 x3_2) 0 a0_5 false _ A19.out).mono ?_); rintro e w' ⟨rfl, ⟨nd, rfl⟩⟩; (try first | exact ⟨rfl, _, World.drewN_drewN _ _ _⟩ | exact ⟨rfl, _, Eq.trans (World.drewN_drewN _ _ _) (congrArg (World.drewN _) (Nat.add_assoc _ _ _))⟩)))
         repeat (go_quiet (first | (go_at_call 92; (with_reducible refine (spec_l1In.calls (rd l0_6 x3_2) 0 a0_5 false _ A19.out).mono ?_); rintro e w' ⟨rfl, ⟨nd, rfl⟩⟩; (try first | exact ⟨rfl, _, World.drewN_drewN _ _ _⟩ | exact ⟨rfl, _, Eq.trans (World.drewN_drewN _ _ _) (congrArg (World.drewN _) (Nat.add_assoc _ _ _))⟩))); try go_wp2_with (first | (go_at_call 92; (with_reducible refine (spec_l1In.calls (rd l0_6 x3_2) 0 a0_5 false _ A19.out).mono ?_); rintro e w' ⟨rfl, ⟨nd, rfl⟩⟩; (try first | exact ⟨rfl, _, World.drewN_drewN _ _ _⟩ | exact ⟨rfl, _, Eq.trans (World.drewN_drewN _ _ _) (congrArg (World.drewN _) (Nat.add_assoc _ _ _))⟩))))
         go_ret
         exact ⟨zfr, by repeat (first | exact zh0 HB | refine below_set ?_ GE179.out)⟩
       ·rw [if_neg c18] at H
        exact absurd H (by simp)
      ·rw [if_neg c17] at H
       have c17b0 : decide (x3_2 < (l0_6.length : Int)) = false := decide_eq_false c17
       clear c17
       obtain rfl := Option.some.inj H
       have hcz30_0 := zc0 BK179 0 rfl
       have hcz30_1 := zc0 BK179 1 rfl
       have hcz30_2 := zc0 BK179 2 rfl
       have hcz30_3 := zc0 BK179 3 rfl
       have hcz30_4 := zc0 BK179 4 rfl
       have hcz30_5 := zc0 BK179 5 rfl
       have hcz30_6 := zc0 BK179 6 rfl
       have hfz30_0 := blk_frozen BK179.out 0
       have hfz30_1 := blk_frozen BK179.out 1
       have hfz30_2 := blk_frozen BK179.out 2
       have hfz30_3 := blk_frozen BK179.out 3
       have hfz30_4 := blk_frozen BK179.out 4
       have hfz30_5 := blk_frozen BK179.out 5
       have hfz30_6 := blk_frozen BK179.out 6
       go_wp2
       repeat (go_quiet (fail); try go_wp2)
       go_ret
       exact ⟨zfr, by repeat (first | exact zh0 HB | refine below_set ?_ GE179.out)⟩

open Go.Proofs.Ytkifenbcepicjab.Cp
/-! ### spec_l8Asked: function 107 -/
def spec_l8Asked.f (a0_0 : Int) (a0_1 : Int) : Option (Bool) := if a0_0 ≥ 0 then ((spec_l1In.f a0_1 1 16).bind fun t187 => (some t187)) else (some false)
set_option maxHeartbeats 8000000 in
set_option maxRecDepth 100000 in
theorem spec_l8Asked.calls (a0_0 : Int) (a0_1 : Int) (r : Bool) (w : World) (h : spec_l8Asked.f a0_0 a0_1 = some r) :
  Calls Try.prog 107 #[.agg #[.int .i64 a0_0, .int .i64 a0_1]] w fun e w' => e = .returned (.bool r) ∧ Below w.heap.size w w' := by
 have hu95 := Try.underlying95
 have HB := Aside0.mk (Below.refl w.heap.size w)
 have H : (if a0_0 ≥ 0 then ((spec_l1In.f a0_1 1 16).bind fun t187 => (some t187)) else (some false)) = some r := h
 clear h
 by_cases c2 : a0_0 ≥ 0
 ·rw [if_pos c2] at H
  have c2b0 : decide (0 ≤ a0_0) = true := decide_eq_true c2
  clear c2
  replace H := Option.bind_eq_some_iff.mp H
  obtain ⟨t187, A30, H⟩ := H
  replace H : (some t187) = some r := H
  have A3 := Aside0.mk A30
  clear A30
  obtain rfl := Option.some.inj H
  go_enter Try.func107, Try.ntmps107
  go_wp2_with (first | ((with_reducible refine gate_dst (N := 1) rfl ?_); refine box_event ?hg (N := 1) ?hd (cs := #[.int .i64 a0_0, .int .i64 a0_1]) (t := 95) ?hr ?_; (case hd => rfl); (case hg => rfl); (case hr => first | (go_simp; done) | (go_simp; rfl)); intro gb186 hg w4 hbox hb; have BK186 := Aside0.mk (hbox); have GW186 := zge HB hg; have GE186 := zge HB hg; replace HB := zhs HB hb; clear hb hbox hg; have hcz5_0 := zc0 BK186 0 rfl; have hcz5_1 := zc0 BK186 1 rfl; have hfz5_0 := blk_frozen BK186.out 0; have hfz5_1 := blk_frozen BK186.out 1) | (go_at_call 92; (with_reducible refine (spec_l1In.calls a0_1 1 16 t187 _ A3.out).mono ?_); rintro e w' ⟨rfl, ⟨nd, rfl⟩⟩))
  go_ret
  exact ⟨zfr, by repeat (first | exact zh0 HB | refine below_set ?_ GE186.out)⟩
 ·rw [if_neg c2] at H
  have c2b0 : decide (0 ≤ a0_0) = false := decide_eq_false c2
  clear c2
  obtain rfl := Option.some.inj H
  go_enter Try.func107, Try.ntmps107
  go_wp2_with (first | ((with_reducible refine gate_dst (N := 1) rfl ?_); refine box_event ?hg (N := 1) ?hd (cs := #[.int .i64 a0_0, .int .i64 a0_1]) (t := 95) ?hr ?_; (case hd => rfl); (case hg => rfl); (case hr => first | (go_simp; done) | (go_simp; rfl)); intro gb186 hg w6 hbox hb; have BK186 := Aside0.mk (hbox); have GW186 := zge HB hg; have GE186 := zge HB hg; replace HB := zhs HB hb; clear hb hbox hg; have hcz7_0 := zc0 BK186 0 rfl; have hcz7_1 := zc0 BK186 1 rfl; have hfz7_0 := blk_frozen BK186.out 0; have hfz7_1 := blk_frozen BK186.out 1))
  go_ret
  exact ⟨zfr, by repeat (first | exact zh0 HB | refine below_set ?_ GE186.out)⟩

open Go.Proofs.Ytkifenbcepicjab.Cp
/-! ### spec_l8List: function 65 -/
def spec_l8List.l0 : Nat → List (S95) → Int → List (List Int) → Int → Int → Int → Int → Int → List Int → Option (Bool)
 | 0, _, _, _, _, _, _, _, _, _ => none
 | k + 1, x1, x5, x189000, x189001, x189002, x189003, x189004, x189005, x189006 => if x5 < (x1.length : Int) then (if 0 ≤ x5 then ((spec_l8Asked.f ((rd_T95 x1 x5).f0) ((rd_T95 x1 x5).f1)).bind fun t190 => (if t190 = true then (spec_l8List.l0 k x1 (wrap64 (x5 + 1)) x189000 x189001 x189002 x189003 x189004 x189005 x189006) else (some false))) else (none)) else ((spec_l8Arena.f k x189000 x189001 x189002 x189003 x189004 x189005 x189006).bind fun t191 => (if t191 = true then (some (decide ((x1.length : Int) ≤ 6))) else (some false)))
def spec_l8List.f (k : Nat) (l0_0 : List (List Int)) (a0_1 : Int) (a0_2 : Int) (a0_3 : Int) (a0_4 : Int) (a0_5 : Int) (l0_6 : List Int) (l1 : List (S95)) : Option (Bool) := spec_l8List.l0 k l1 0 l0_0 a0_1 a0_2 a0_3 a0_4 a0_5 l0_6
theorem spec_l8List.mono_l : ∀ k, (∀ y0 y1 y2 y3 y4 y5 y6 y7 y8, LeO (spec_l8List.l0 k y0 y1 y2 y3 y4 y5 y6 y7 y8) (spec_l8List.l0 (k + 1) y0 y1 y2 y3 y4 y5 y6 y7 y8))
 | 0 => fun _ _ _ _ _ _ _ _ _ r h => by simp [spec_l8List.l0] at h
 | k + 1 => by
  have ih0 := spec_l8List.mono_l k
  ·intro y0 y1 y2 y3 y4 y5 y6 y7 y8
   unfold spec_l8List.l0
   repeat' first
   | (with_reducible exact ih0 _ _ _ _ _ _ _ _ _)
   | (with_reducible exact spec_l8Arena.mono _ _ _ _ _ _ _ _)
   | (with_reducible exact LeO.refl _)
   | (with_reducible exact LeO.none _)
   | (with_reducible refine LeO.ite ?_ ?_)
   | (with_reducible refine LeO.bind ?_ (fun _ => ?_))
   | exact ih0 _ _ _ _ _ _ _ _ _
   | exact spec_l8Arena.mono _ _ _ _ _ _ _ _
   | exact LeO.none _
   | refine LeO.ite ?_ ?_
   | refine LeO.bind ?_ (fun _ => ?_)
theorem spec_l8List.mono : ∀ a0 a1 a2 a3 a4 a5 a6 a7 k, LeO (spec_l8List.f k a0 a1 a2 a3 a4 a5 a6 a7) (spec_l8List.f (k + 1) a0 a1 a2 a3 a4 a5 a6 a7) := by
 intro a0 a1 a2 a3 a4 a5 a6 a7 k
 have ih0 := spec_l8List.mono_l k
 unfold spec_l8List.f
 repeat' first
   | (with_reducible exact ih0 _ _ _ _ _ _ _ _ _)
   | (with_reducible exact spec_l8Arena.mono _ _ _ _ _ _ _ _)
   | (with_reducible exact LeO.refl _)
   | (with_reducible exact LeO.none _)
   | (with_reducible refine LeO.ite ?_ ?_)
   | (with_reducible refine LeO.bind ?_ (fun _ => ?_))
   | exact ih0 _ _ _ _ _ _ _ _ _
   | exact spec_l8Arena.mono _ _ _ _ _ _ _ _
   | exact LeO.none _
   | refine LeO.ite ?_ ?_
   | refine LeO.bind ?_ (fun _ => ?_)
set_option maxHeartbeats 8000000 in
set_option maxRecDepth 100000 in
theorem spec_l8List.calls (k : Nat) (A0_0 : Option Addr) (c0_0 : Nat) (l0_0 : List (List Int)) (a0_1 : Int) (a0_2 : Int) (a0_3 : Int) (a0_4 : Int) (a0_5 : Int) (A0_6 : Option Addr) (c0_6 : Nat) (l0_6 : List Int) (A1 : Option Addr) (c1 : Nat) (l1 : List (S95)) (r : Bool) (w : World) (hr0_0 : Kd.C (Kd.slice 5 (Kd.int .u8)) w A0_0 l0_0.length l0_0) (hc0_0 : l0_0.length ≤ c0_0) (hr0_6 : Kd.C (Kd.int .i64) w A0_6 l0_6.length l0_6) (hc0_6 : l0_6.length ≤ c0_6) (hr1 : Kd.C k95 w A1 l1.length l1) (hc1 : l1.length ≤ c1) (h : spec_l8List.f k l0_0 a0_1 a0_2 a0_3 a0_4 a0_5 l0_6 l1 = some r) :
  Calls Try.prog 65 #[.agg #[.slice A0_0 l0_0.length c0_0, .int .i64 a0_1, .int .i64 a0_2, .int .i64 a0_3, .int .i64 a0_4, .int .i64 a0_5, .slice A0_6 l0_6.length c0_6], .slice A1 l1.length c1] w fun e w' => e = .returned (.bool r) ∧ Below w.heap.size w w' := by
 have hu38 := Try.underlying38
 have hu95 := Try.underlying95
 have HR0_0 := Aside0.mk hr0_0
 have HC0_0 := Aside0.mk hc0_0
 clear hr0_0 hc0_0
 have HR0_6 := Aside0.mk hr0_6
 have HC0_6 := Aside0.mk hc0_6
 clear hr0_6 hc0_6
 have HR1 := Aside0.mk hr1
 have HC1 := Aside0.mk hc1
 clear hr1 hc1
 have HB := Aside0.mk (Below.refl w.heap.size w)
 have H : (spec_l8List.l0 k l1 0 l0_0 a0_1 a0_2 a0_3 a0_4 a0_5 l0_6) = some r := h
 clear h
 have H' := Aside0.mk H
 clear H
 go_enter Try.func65, Try.ntmps65
 go_wp2_with (first | ((with_reducible refine gate_dst (N := 2) rfl ?_); (try (refine gate_guard (by rfl) ?_; dsimp only)); refine box_event ?hg (N := 2) ?hd (cs := #[.slice A0_0 l0_0.length c0_0, .int .i64 a0_1, .int .i64 a0_2, .int .i64 a0_3, .int .i64 a0_4, .int .i64 a0_5, .slice A0_6 l0_6.length c0_6]) (t := 38) ?hr ?_; (case hd => rfl); (case hg => rfl); (case hr => first | (go_simp; done) | (go_simp; rfl)); intro gb188 hg w3 hbox hb; have BK188 := Aside0.mk (hbox); have GW188 := zge HB hg; have GE188 := zge HB hg; replace HB := zhs HB hb; clear hb hbox hg))
 go_loopg [5] k (fun kq v5 w' => ∃ (x5_1 : Int), v5 = .int .i64 x5_1 ∧ Aside0 (spec_l8List.l0 kq l1 x5_1 l0_0 a0_1 a0_2 a0_3 a0_4 a0_5 l0_6 = some r) ∧ Aside0 (kq ≤ k) ∧ Aside0 (w'.heap[gb188]? = some (.cells #[(.slice A0_0 l0_0.length c0_0), .int .i64 a0_1, .int .i64 a0_2, .int .i64 a0_3, .int .i64 a0_4, .int .i64 a0_5, (.slice A0_6 l0_6.length c0_6)] 38 (0, 0))) ∧ Aside0 (Below w.heap.size w w'))
 case atStart => exact ⟨(0), zfs, H', ⟨Nat.le_refl _⟩, ⟨zk0 BK188⟩, ⟨by repeat (first | exact zh0 HB | refine below_set ?_ GE188.out)⟩⟩
 case round =>
  clear H'
  try clear c1
  try clear p2
  obtain ⟨x5_1, rfl, HA, HK1, BK188, HB⟩ := hrel
  cases gk with
  | zero => exact absurd HA.out (by simp [spec_l8List.l0])
  | succ k1 =>
   have H := HA.out
   clear HA
   simp only [spec_l8List.l0] at H
   by_cases c4 : x5_1 < (l1.length : Int)
   ·rw [if_pos c4] at H
    have c4b0 : decide (x5_1 < (l1.length : Int)) = true := decide_eq_true c4
    clear c4
    by_cases c5 : 0 ≤ x5_1
    ·rw [if_pos c5] at H
     have c5b0 : decide (0 ≤ x5_1) = true := decide_eq_true c5
     clear c5
     replace H := Option.bind_eq_some_iff.mp H
     obtain ⟨t190, A60, H⟩ := H
     replace H : (if t190 = true then (spec_l8List.l0 k1 l1 (wrap64 (x5_1 + 1)) l0_0 a0_1 a0_2 a0_3 a0_4 a0_5 l0_6) else (some false)) = some r := H
     have A6 := Aside0.mk A60
     clear A60
     by_cases c7 : t190 = true
     ·subst c7
      have H1 : (spec_l8List.l0 k1 l1 (wrap64 (x5_1 + 1)) l0_0 a0_1 a0_2 a0_3 a0_4 a0_5 l0_6) = some r := by rw [if_pos rfl] at H; exact H
      clear H
      have H := H1
      clear H1
      have H' := Aside0.mk H
      clear H
      have p189 : 0 ≤ (x5_1 : Int) := zod
      have q189 : x5_1 < (l1.length : Int) := zod
      obtain ⟨ad189, e189, hx189_0, hx189_1⟩ := at_T95 HR1.out x5_1 p189 q189
      cases e189
      replace hx189_0 := (HB.out.cell (World.block_lt_of_cell? w _ hx189_0)).trans hx189_0
      replace hx189_1 := (HB.out.cell (World.block_lt_of_cell? w _ hx189_1)).trans hx189_1
      replace p189 := eq_true p189
      replace q189 := eq_true q189
      go_wp2_with (first | ((with_reducible refine gate_callee (f := 107) rfl ?_); refine goesL_ (some 16) rfl rfl Try.func107 (by kernel_rfl) rfl #[.agg #[.int .i64 ((rd_T95 l1 x5_1).f0), .int .i64 ((rd_T95 l1 x5_1).f1)]] rfl (by (try simp only [zq1, zq2, zq3]); first | done | rfl | (simp only [List.length_drop, List.length_take]; rfl)) ?_; (with_reducible refine (spec_l8Asked.calls ((rd_T95 l1 x5_1).f0) ((rd_T95 l1 x5_1).f1) true _ A6.out).mono ?_); rintro e w8 ⟨rfl, hb⟩; refine ⟨_, rfl, ?_⟩; replace BK188 := zb0 BK188 hb; replace HB := zhs HB hb; (try clear hb)))
      go_roundg k1
      case measure => have := HK1.out; omega
      case rel => exact ⟨(wrap64 (x5_1 + 1)), zfs, H', ⟨by have := HK1.out; omega⟩, ⟨zk0 BK188⟩, ⟨by repeat (first | exact zh0 HB | refine below_set ?_ GE188.out)⟩⟩
     ·replace c7 := Bool.eq_false_iff.mpr c7
      subst c7
      have H1 : (some false) = some r := by rw [if_neg (show ¬ (false = true) by decide)] at H; exact H
      clear H
      have H := H1
      clear H1
      obtain rfl := Option.some.inj H
      have p189 : 0 ≤ (x5_1 : Int) := zod
      have q189 : x5_1 < (l1.length : Int) := zod
      obtain ⟨ad189, e189, hx189_0, hx189_1⟩ := at_T95 HR1.out x5_1 p189 q189
      cases e189
      replace hx189_0 := (HB.out.cell (World.block_lt_of_cell? w _ hx189_0)).trans hx189_0
      replace hx189_1 := (HB.out.cell (World.block_lt_of_cell? w _ hx189_1)).trans hx189_1
      replace p189 := eq_true p189
      replace q189 := eq_true q189
      go_wp2_with (first | ((with_reducible refine gate_callee (f := 107) rfl ?_); refine goesL_ (some 16) rfl rfl Try.func107 (by kernel_rfl) rfl #[.agg #[.int .i64 ((rd_T95 l1 x5_1).f0), .int .i64 ((rd_T95 l1 x5_1).f1)]] rfl (by (try simp only [zq1, zq2, zq3]); first | done | rfl | (simp only [List.length_drop, List.length_take]; rfl)) ?_; (with_reducible refine (spec_l8Asked.calls ((rd_T95 l1 x5_1).f0) ((rd_T95 l1 x5_1).f1) false _ A6.out).mono ?_); rintro e w9 ⟨rfl, hb⟩; refine ⟨_, rfl, ?_⟩; replace BK188 := zb0 BK188 hb; replace HB := zhs HB hb; (try clear hb)))
      go_ret
      exact ⟨zfr, by repeat (first | exact zh0 HB | refine below_set ?_ GE188.out)⟩
    ·rw [if_neg c5] at H
     exact absurd H (by simp)
   ·rw [if_neg c4] at H
    have c4b0 : decide (x5_1 < (l1.length : Int)) = false := decide_eq_false c4
    clear c4
    replace H := Option.bind_eq_some_iff.mp H
    obtain ⟨t191, A100, H⟩ := H
    replace H : (if t191 = true then (some (decide ((l1.length : Int) ≤ 6))) else (some false)) = some r := H
    have A10 := Aside0.mk A100
    clear A100
    by_cases c11 : t191 = true
    ·subst c11
     have H1 : (some (decide ((l1.length : Int) ≤ 6))) = some r := by rw [if_pos rfl] at H; exact H
     clear H
     have H := H1
     clear H1
     obtain rfl := Option.some.inj H
     have hcz12_0 := zc0 BK188 0 rfl
     have hcz12_1 := zc0 BK188 1 rfl
     have hcz12_2 := zc0 BK188 2 rfl
     have hcz12_3 := zc0 BK188 3 rfl
     have hcz12_4 := zc0 BK188 4 rfl
     have hcz12_5 := zc0 BK188 5 rfl
     have hcz12_6 := zc0 BK188 6 rfl
     have hfz12_0 := blk_frozen BK188.out 0
     have hfz12_1 := blk_frozen BK188.out 1
     have hfz12_2 := blk_frozen BK188.out 2
     have hfz12_3 := blk_frozen BK188.out 3
     have hfz12_4 := blk_frozen BK188.out 4
     have hfz12_5 := blk_frozen BK188.out 5
     have hfz12_6 := blk_frozen BK188.out 6
     go_wp2_with (first | ((with_reducible refine gate_callee (f := 49) rfl ?_); refine goesL_ (some 19) rfl rfl Try.func49 (by kernel_rfl) rfl #[.agg #[.slice A0_0 l0_0.length c0_0, .int .i64 a0_1, .int .i64 a0_2, .int .i64 a0_3, .int .i64 a0_4, .int .i64 a0_5, .slice A0_6 l0_6.length c0_6]] rfl (by (try simp only [zq1, zq2, zq3]); first | done | rfl | (simp only [List.length_drop, List.length_take]; rfl)) ?_; (with_reducible refine (spec_l8Arena.calls k1 _ _ l0_0 a0_1 a0_2 a0_3 a0_4 a0_5 _ _ l0_6 true _ ?side1 ?side2 ?side3 ?side4 A10.out).mono ?_); (case side1 => exact Kd.C_below HR0_0.out (zh0 HB)); (case side2 => exact HC0_0.out); (case side3 => exact Kd.C_below HR0_6.out (zh0 HB)); (case side4 => exact HC0_6.out); rintro e w13 ⟨rfl, hb⟩; refine ⟨_, rfl, ?_⟩; replace BK188 := zb0 BK188 hb; replace HB := zhs HB hb; (try clear hb)))
     go_ret
     exact ⟨zfr, by repeat (first | exact zh0 HB | refine below_set ?_ GE188.out)⟩
    ·replace c11 := Bool.eq_false_iff.mpr c11
     subst c11
     have H1 : (some false) = some r := by rw [if_neg (show ¬ (false = true) by decide)] at H; exact H
     clear H
     have H := H1
     clear H1
     obtain rfl := Option.some.inj H
     have hcz14_0 := zc0 BK188 0 rfl
     have hcz14_1 := zc0 BK188 1 rfl
     have hcz14_2 := zc0 BK188 2 rfl
     have hcz14_3 := zc0 BK188 3 rfl
     have hcz14_4 := zc0 BK188 4 rfl
     have hcz14_5 := zc0 BK188 5 rfl
     have hcz14_6 := zc0 BK188 6 rfl
     have hfz14_0 := blk_frozen BK188.out 0
     have hfz14_1 := blk_frozen BK188.out 1
     have hfz14_2 := blk_frozen BK188.out 2
     have hfz14_3 := blk_frozen BK188.out 3
     have hfz14_4 := blk_frozen BK188.out 4
     have hfz14_5 := blk_frozen BK188.out 5
     have hfz14_6 := blk_frozen BK188.out 6
     go_wp2_with (first | ((with_reducible refine gate_callee (f := 49) rfl ?_); refine goesL_ (some 19) rfl rfl Try.func49 (by kernel_rfl) rfl #[.agg #[.slice A0_0 l0_0.length c0_0, .int .i64 a0_1, .int .i64 a0_2, .int .i64 a0_3, .int .i64 a0_4, .int .i64 a0_5, .slice A0_6 l0_6.length c0_6]] rfl (by (try simp only [zq1, zq2, zq3]); first | done | rfl | (simp only [List.length_drop, List.length_take]; rfl)) ?_; (with_reducible refine (spec_l8Arena.calls k1 _ _ l0_0 a0_1 a0_2 a0_3 a0_4 a0_5 _ _ l0_6 false _ ?side1 ?side2 ?side3 ?side4 A10.out).mono ?_); (case side1 => exact Kd.C_below HR0_0.out (zh0 HB)); (case side2 => exact HC0_0.out); (case side3 => exact Kd.C_below HR0_6.out (zh0 HB)); (case side4 => exact HC0_6.out); rintro e w15 ⟨rfl, hb⟩; refine ⟨_, rfl, ?_⟩; replace BK188 := zb0 BK188 hb; replace HB := zhs HB hb; (try clear hb)))
     go_ret
     exact ⟨zfr, by repeat (first | exact zh0 HB | refine below_set ?_ GE188.out)⟩

open Go.Proofs.Ytkifenbcepicjab.Cp
/-! ### spec_l1Has: function 108 -/
def spec_l1Has.l0 : Nat → List Int → Int → Int → Option (Bool)
 | 0, _, _, _ => none
 | k + 1, x0, x1, x5 => if x5 < (x0.length : Int) then (if 0 ≤ x5 then (if (rd x0 x5) = x1 then (some true) else (spec_l1Has.l0 k x0 x1 (wrap64 (x5 + 1)))) else (none)) else (some false)
def spec_l1Has.f (k : Nat) (l0 : List Int) (a1 : Int) : Option (Bool) := spec_l1Has.l0 k l0 a1 0
theorem spec_l1Has.mono_l : ∀ k, (∀ y0 y1 y2, LeO (spec_l1Has.l0 k y0 y1 y2) (spec_l1Has.l0 (k + 1) y0 y1 y2))
 | 0 => fun _ _ _ r h => by simp [spec_l1Has.l0] at h
 | k + 1 => by
  have ih0 := spec_l1Has.mono_l k
  ·intro y0 y1 y2
   unfold spec_l1Has.l0
   repeat' first
   | (with_reducible exact ih0 _ _ _)
   | (with_reducible exact LeO.refl _)
   | (with_reducible exact LeO.none _)
   | (with_reducible refine LeO.ite ?_ ?_)
   | (with_reducible refine LeO.bind ?_ (fun _ => ?_))
   | exact ih0 _ _ _
   | exact LeO.none _
   | refine LeO.ite ?_ ?_
   | refine LeO.bind ?_ (fun _ => ?_)
theorem spec_l1Has.mono : ∀ a0 a1 k, LeO (spec_l1Has.f k a0 a1) (spec_l1Has.f (k + 1) a0 a1) := by
 intro a0 a1 k
 have ih0 := spec_l1Has.mono_l k
 unfold spec_l1Has.f
 repeat' first
   | (with_reducible exact ih0 _ _ _)
   | (with_reducible exact LeO.refl _)
   | (with_reducible exact LeO.none _)
   | (with_reducible refine LeO.ite ?_ ?_)
   | (with_reducible refine LeO.bind ?_ (fun _ => ?_))
   | exact ih0 _ _ _
   | exact LeO.none _
   | refine LeO.ite ?_ ?_
   | refine LeO.bind ?_ (fun _ => ?_)
set_option maxHeartbeats 8000000 in
set_option maxRecDepth 100000 in
theorem spec_l1Has.calls (k : Nat) (A0 : Option Addr) (c0 : Nat) (l0 : List Int) (a1 : Int) (r : Bool) (w : World) (hr0 : Kd.C (Kd.int .i64) w A0 l0.length l0) (hc0 : l0.length ≤ c0) (h : spec_l1Has.f k l0 a1 = some r) :
  Calls Try.prog 108 #[.slice A0 l0.length c0, .int .i64 a1] w fun e w' => e = .returned (.bool r) ∧ Drawn0 w w' := by
 have HR0 := Aside0.mk hr0
 have HC0 := Aside0.mk hc0
 clear hr0 hc0
 have H : (spec_l1Has.l0 k l0 a1 0) = some r := h
 clear h
 have H' := Aside0.mk H
 clear H
 go_enter Try.func108, Try.ntmps108
 go_wp2
 go_loopg [5] k (fun kq v5 w' => ∃ (x5_1 : Int), v5 = .int .i64 x5_1 ∧ Aside0 (spec_l1Has.l0 kq l0 a1 x5_1 = some r) ∧ Aside0 (kq ≤ k) ∧ Drawn0 w w')
 case atStart => exact ⟨(0), zfs, H', ⟨Nat.le_refl _⟩, by repeat (first | exact Drawn0.refl _ | apply Drawn0.step)⟩
 case round =>
  clear H'
  try clear c1
  try clear p2
  obtain ⟨x5_1, rfl, HA, HK1, ⟨m1, rfl⟩⟩ := hrel
  cases gk with
  | zero => exact absurd HA.out (by simp [spec_l1Has.l0])
  | succ k1 =>
   have H := HA.out
   clear HA
   simp only [spec_l1Has.l0] at H
   by_cases c3 : x5_1 < (l0.length : Int)
   ·rw [if_pos c3] at H
    have c3b0 : decide (x5_1 < (l0.length : Int)) = true := decide_eq_true c3
    clear c3
    by_cases c4 : 0 ≤ x5_1
    ·rw [if_pos c4] at H
     have c4b0 : decide (0 ≤ x5_1) = true := decide_eq_true c4
     clear c4
     by_cases c5 : (rd l0 x5_1) = a1
     ·rw [if_pos c5] at H
      have c5b0 : ((rd l0 x5_1) == a1) = true := beq_iff_eq.mpr c5
      have c5b1 : ((rd l0 x5_1) != a1) = false := bne_eq_false_iff_eq.mpr c5
      clear c5
      obtain rfl := Option.some.inj H
      have p192 : 0 ≤ (x5_1 : Int) := zod
      have q192 : x5_1 < (l0.length : Int) := zod
      obtain ⟨ad192, e192, hx192_0⟩ := Kd.at_int HR0.out x5_1 p192 q192
      cases e192
      replace p192 := eq_true p192
      replace q192 := eq_true q192
      go_wp2
      go_ret
      exact ⟨zfs, by repeat (first | exact Drawn0.refl _ | apply Drawn0.step)⟩
     ·rw [if_neg c5] at H
      have c5b0 : ((rd l0 x5_1) == a1) = false := beq_eq_false_iff_ne.mpr c5
      have c5b1 : ((rd l0 x5_1) != a1) = true := bne_iff_ne.mpr c5
      have H' := Aside0.mk H
      clear H
      have p192 : 0 ≤ (x5_1 : Int) := zod
      have q192 : x5_1 < (l0.length : Int) := zod
      obtain ⟨ad192, e192, hx192_0⟩ := Kd.at_int HR0.out x5_1 p192 q192
      cases e192
      replace p192 := eq_true p192
      replace q192 := eq_true q192
      go_wp2
      go_roundg k1
      case measure => have := HK1.out; omega
      case rel => exact ⟨(wrap64 (x5_1 + 1)), zfs, H', ⟨by have := HK1.out; omega⟩, by repeat (first | exact Drawn0.refl _ | apply Drawn0.step)⟩
    ·rw [if_neg c4] at H
     exact absurd H (by simp)
   ·rw [if_neg c3] at H
    have c3b0 : decide (x5_1 < (l0.length : Int)) = false := decide_eq_false c3
    clear c3
    obtain rfl := Option.some.inj H
    go_wp2
    go_ret
    exact ⟨zfs, by repeat (first | exact Drawn0.refl _ | apply Drawn0.step)⟩

open Go.Proofs.Ytkifenbcepicjab.Cp
/-! ### spec_l1Own: function 109 -/
def spec_l1Own.f (l0 : List Int) : Option (List Int) := (some (([] : List Int) : List Int)).bind fun y193 => (if y193.length + l0.length < 17592186044416 then (some (y193 ++ l0)) else (none))
set_option maxHeartbeats 8000000 in
set_option maxRecDepth 100000 in
theorem spec_l1Own.calls (A0 : Option Addr) (c0 : Nat) (l0 : List Int) (r : List Int) (w : World) (hr0 : Kd.C (Kd.int .i64) w A0 l0.length l0) (hc0 : l0.length ≤ c0) (h : spec_l1Own.f l0 = some r) :
  Calls Try.prog 109 #[.slice A0 l0.length c0] w fun e w' => ∃ v0_ : Value, e = .returned (v0_) ∧ Kd.R (Kd.int .i64) 3 w' w.heap.size (fun _ => True) v0_ r ∧ Below w.heap.size w w' := by
 have HR0 := Aside0.mk hr0
 have HC0 := Aside0.mk hc0
 clear hr0 hc0
 have HB := Aside0.mk (Below.refl w.heap.size w)
 have H : ((some (([] : List Int) : List Int)).bind fun y193 => (if y193.length + l0.length < 17592186044416 then (some (y193 ++ l0)) else (none))) = some r := h
 clear h
 obtain ⟨y193, hy193⟩ : ∃ y_ : List Int, y_ = (([] : List Int)) := ⟨_, rfl⟩
 replace H : (if y193.length + l0.length < 17592186044416 then (some (y193 ++ l0)) else (none)) = some r := by first | (rw [hy193]; with_reducible exact H) | (have H2_ := (Option.bind_some _ _).symm.trans H; rw [hy193]; with_reducible exact H2_) | (have H2_ := (Option.bind_some _ _).symm.trans H; with_reducible exact H2_) | with_reducible exact H | (rw [hy193]; exact H) | exact H
 have Ny193 := Aside0.mk hy193
 clear hy193
 by_cases c2 : y193.length + l0.length < 17592186044416
 ·rw [if_pos c2] at H
  have LMc2 := Aside0.mk c2
  clear c2
  obtain ⟨y196, hy196⟩ : ∃ y_ : List Int, y_ = (y193 ++ l0) := ⟨_, rfl⟩
  replace H : (some y196) = some r := by first | (rw [hy196]; with_reducible exact H) | (have H2_ := (Option.bind_some _ _).symm.trans H; rw [hy196]; with_reducible exact H2_) | (have H2_ := (Option.bind_some _ _).symm.trans H; with_reducible exact H2_) | with_reducible exact H | (rw [hy196]; exact H) | exact H
  have Ny196 := Aside0.mk hy196
  clear hy196
  obtain rfl := Option.some.inj H
  go_enter Try.func109, Try.ntmps109
  go_wp2_with (first | ((with_reducible refine gate_dst (N := 3) rfl ?_); refine Kd.R_lit (Kd.int .i64) _ 3 ?hg (N := 3) ?hd (xs := ([] : List Int)) (inner := []) (ok := fun _ => True) (okp := fun _ => True) ?hr ?hp (fun _ hk => hk) trivial (Below.refl _ _) (Nat.le_refl _) (by simp) ?_; (case hd => rfl); (case hg => rfl); (case hr => first | (go_simp; done) | (go_simp; rfl)); (case hp => exact (Reps.none _ _)); intro v194 w3 ho4 hb hg_ hnew_; clear hg_ hnew_; (first | rw [← Ny193.out] at ho4 | (simp only [Int.reduceToNat] at ho4; rw [← Ny193.out] at ho4)); have HO195 := Aside0.mk (Kd.R_lower ho4 (below_size (zh0 HB))); replace HB := zhs HB hb; clear hb ho4) | ((with_reducible refine gate_builtin (b := .append) (xs := #[.tmp 3, .tmp 4]) rfl ?_); at_builtin; refine Kd.R_append_rows (Kd.int .i64) (w0 := w) w.heap.size rfl (.tmp 3) (.tmp 4) 27 3 (.int .i64 0) 8 rfl Try.underlying27 info3 rfl (by decide) (by omega) v194 y193 l0 _ _ _ (fun _ => True) (fun _ => False) rfl rfl ?aO ?aR (fun _ _ h => h) (fun _ h => h.elim) ?aF ?aB ?aS ?aL ?_; (case aR => exact Kd.C_below HR0.out (zh0 HB)); (case aB => exact (zh0 HB)); (case aF => exact (fun _ _ => trivial)); (case aO => exact (zr0 HO195)); (case aS => exact (below_size (zh0 HB))); (case aL => have := LMc2.out; omega); intro v197 w5 ho hb hg hat; rw [← Ny196.out] at ho; have n0_ := Aside0.mk (hb); have n1_ := Aside0.mk (ho); clear HB; clear HO195; have HB := n0_; have HO198 := n1_; clear n0_ n1_; clear ho hb hg hat))
  go_ret
  exact ⟨_, by first | rfl | (simp <;> rfl) | (simp [*] <;> rfl), (by first | exact zr0 HO198 | exact Kd.R_mono (zr0 HO198) (fun _ _ => trivial)), by repeat (first | exact zh0 HB)⟩
 ·rw [if_neg c2] at H
  exact absurd H (by simp)

open Go.Proofs.Ytkifenbcepicjab.Cp
/-! ### spec_l8Orders: function 66 -/
mutual
def spec_l8Orders.l0 : Nat → Int → List Int → List (List Int) → Int → Option ((List (List Int)))
 | 0, _, _, _, _ => none
 | k + 1, x0, x1, x5, x6 => if x6 < x0 then ((spec_l1Has.f k x1 x6).bind fun t205 => (if t205 = true then (spec_l8Orders.l0 k x0 x1 x5 (wrap64 (x6 + 1))) else ((spec_l1Own.f x1).bind fun t206 => (if t206.length < 17592186044416 then ((spec_l8Orders.f k x0 (t206 ++ [x6])).bind fun t212 => (if x5.length + t212.length < 5864062014805 then (spec_l8Orders.l0 k x0 x1 (x5 ++ t212) (wrap64 (x6 + 1))) else (none))) else (none))))) else (some x5)
def spec_l8Orders.f : Nat → Int → List Int → Option ((List (List Int)))
 | 0, _, _ => none
 | k + 1, a0, l1 => if (l1.length : Int) = a0 then (some (([l1] : List (List Int)))) else (spec_l8Orders.l0 k a0 l1 (([] : List (List Int))) 0)
end
theorem spec_l8Orders.mono_l : ∀ k, (∀ y0 y1, LeO (spec_l8Orders.f k y0 y1) (spec_l8Orders.f (k + 1) y0 y1)) ∧ (∀ y0 y1 y2 y3, LeO (spec_l8Orders.l0 k y0 y1 y2 y3) (spec_l8Orders.l0 (k + 1) y0 y1 y2 y3))
 | 0 => ⟨fun _ _ r h => by simp [spec_l8Orders.f] at h, fun _ _ _ _ r h => by simp [spec_l8Orders.l0] at h⟩
 | k + 1 => by
  obtain ⟨ih0, ih1⟩ := spec_l8Orders.mono_l k
  refine ⟨?_, ?_⟩
  ·intro y0 y1
   unfold spec_l8Orders.f
   repeat' first
   | (with_reducible exact ih0 _ _)
   | (with_reducible exact ih1 _ _ _ _)
   | (with_reducible exact spec_l1Has.mono _ _ _)
   | (with_reducible exact LeO.refl _)
   | (with_reducible exact LeO.none _)
   | (with_reducible refine LeO.ite ?_ ?_)
   | (with_reducible refine LeO.bind ?_ (fun _ => ?_))
   | exact ih0 _ _
   | exact ih1 _ _ _ _
   | exact spec_l1Has.mono _ _ _
   | exact LeO.none _
   | refine LeO.ite ?_ ?_
   | refine LeO.bind ?_ (fun _ => ?_)
  ·intro y0 y1 y2 y3
   unfold spec_l8Orders.l0
   repeat' first
   | (with_reducible exact ih0 _ _)
   | (with_reducible exact ih1 _ _ _ _)
   | (with_reducible exact spec_l1Has.mono _ _ _)
   | (with_reducible exact LeO.refl _)
   | (with_reducible exact LeO.none _)
   | (with_reducible refine LeO.ite ?_ ?_)
   | (with_reducible refine LeO.bind ?_ (fun _ => ?_))
   | exact ih0 _ _
   | exact ih1 _ _ _ _
   | exact spec_l1Has.mono _ _ _
   | exact LeO.none _
   | refine LeO.ite ?_ ?_
   | refine LeO.bind ?_ (fun _ => ?_)
theorem spec_l8Orders.mono : ∀ a0 a1 k, LeO (spec_l8Orders.f k a0 a1) (spec_l8Orders.f (k + 1) a0 a1) := by
 intro a0 a1 k
 obtain ⟨ih0, ih1⟩ := spec_l8Orders.mono_l k
 exact ih0 a0 a1
set_option maxHeartbeats 8000000 in
set_option maxRecDepth 100000 in
theorem spec_l8Orders.calls (k : Nat) : ∀ (a0 : Int) (P1_ : Nat → Prop) (A1 : Option Addr) (c1 : Nat) (l1 : List Int) (r : List (List Int)) (w : World) (hs1 : Kd.V (Kd.int .i64) 3 w w.heap.size (fun k_ => P1_ k_) (.slice A1 l1.length c1) l1) (h : spec_l8Orders.f k a0 l1 = some r),
  Calls Try.prog 66 #[.int .i64 a0, .slice A1 l1.length c1] w fun e w' => ∃ v0_ : Value, e = .returned (v0_) ∧ Kd.N (Kd.slice 3 (Kd.int .i64)) 27 w' w.heap.size (fun k_ => (P1_ k_ ∨ w.heap.size ≤ k_)) v0_ r ∧ Below w.heap.size w w' := by
 induction k using Nat.strongRecOn with
 | _ k ih =>
 intro a0 P1_ A1 c1 l1 r w hs1 h
 cases k with
 | zero => exact absurd h (by simp [spec_l8Orders.f])
 | succ k =>
 simp only [spec_l8Orders.f] at h
 have HO1 := Aside0.mk (show Kd.V (Kd.int .i64) 3 w w.heap.size (fun k_ => (P1_ k_ ∨ w.heap.size ≤ k_)) (.slice A1 l1.length c1) l1 from Kd.V_mono hs1 (fun k_ hk => .inl hk))
 have HB := Aside0.mk (Below.refl w.heap.size w)
 have H : (if (l1.length : Int) = a0 then (some (([l1] : List (List Int)))) else (spec_l8Orders.l0 k a0 l1 (([] : List (List Int))) 0)) = some r := h
 clear h
 by_cases c3 : (l1.length : Int) = a0
 ·rw [if_pos c3] at H
  have c3b0 : ((l1.length : Int) == a0) = true := beq_iff_eq.mpr c3
  have c3b1 : ((l1.length : Int) != a0) = false := bne_eq_false_iff_eq.mpr c3
  clear c3
  obtain ⟨y199, hy199⟩ : ∃ y_ : List (List Int), y_ = (([l1] : List (List Int))) := ⟨_, rfl⟩
  replace H : (some y199) = some r := by first | (rw [hy199]; with_reducible exact H) | (have H2_ := (Option.bind_some _ _).symm.trans H; rw [hy199]; with_reducible exact H2_) | (have H2_ := (Option.bind_some _ _).symm.trans H; with_reducible exact H2_) | with_reducible exact H | (rw [hy199]; exact H) | exact H
  have Ny199 := Aside0.mk hy199
  clear hy199
  obtain rfl := Option.some.inj H
  go_enter Try.func66, Try.ntmps66
  go_wp2_with (first | ((with_reducible refine gate_dst (N := 12) rfl ?_); refine Kd.N_lit (Kd.slice 3 (Kd.int .i64)) _ 27 ?hg (N' := 12) ?hd (xs := ([l1] : List (List Int))) (inner := [.slice A1 l1.length c1]) (ok := (fun k_ => (P1_ k_ ∨ w.heap.size ≤ k_))) (okp := (fun k_ => (P1_ k_ ∨ w.heap.size ≤ k_))) ?hr ?hp (fun _ hk => hk) ((show ∀ k_, w.heap.size ≤ k_ → (fun k_ => (P1_ k_ ∨ w.heap.size ≤ k_)) k_ from fun k_ hk => (.inr (Nat.le_trans (below_size (zh0 HB)) hk))) _ (Nat.le_refl _)) (Below.refl _ _) (Nat.le_refl _) (by simp) ?_; (case hd => rfl); (case hg => rfl); (case hr => first | (go_simp; done) | (go_simp; rfl)); (case hp => exact (Reps.one (show Kd.FK (Kd.slice 3 (Kd.int .i64)) _ _ l1 [.slice A1 l1.length c1] from (Kd.FK_slice_mk (Kd.V_reads' (Kd.V_mono (ok' := (fun k_ => (P1_ k_ ∨ w.heap.size ≤ k_))) (HO1.out) (fun k_ hk => hk))).2.1 (Kd.V_F (Kd.V_mono (ok' := (fun k_ => (P1_ k_ ∨ w.heap.size ≤ k_))) (HO1.out) (fun k_ hk => hk))))) (Reps.none _ _))); intro v200 w4 ho5 hb hg_ hnew_; clear hg_ hnew_; (first | rw [← Ny199.out] at ho5 | (simp only [Int.reduceToNat] at ho5; rw [← Ny199.out] at ho5)); have HO201 := Aside0.mk (Kd.N_lower ho5 (below_size (zh0 HB))); replace HO1 := Aside0.mk (Kd.V_elder' (by (with_reducible repeat (first | apply Kd.V_alloc | apply Kd.V_drewN | apply Kd.V_drew)); exact HO1.out) (Kd.N_base ho5) hb); replace HB := zhs HB hb; clear hb ho5))
  go_ret
  exact ⟨_, by first | rfl | (simp <;> rfl) | (simp [*] <;> rfl), by (with_reducible repeat (first | apply Kd.N_alloc | apply Kd.N_drewN | apply Kd.N_drew)); (first | exact HO201.out | exact Kd.R_mono HO201.out (fun _ _ => trivial)), by repeat (first | exact zh0 HB)⟩
 ·rw [if_neg c3] at H
  have c3b0 : ((l1.length : Int) == a0) = false := beq_eq_false_iff_ne.mpr c3
  have c3b1 : ((l1.length : Int) != a0) = true := bne_iff_ne.mpr c3
  obtain ⟨y202, hy202⟩ : ∃ y_ : List (List Int), y_ = (([] : List (List Int))) := ⟨_, rfl⟩
  replace H : (spec_l8Orders.l0 k a0 l1 y202 0) = some r := by first | (rw [hy202]; with_reducible exact H) | (have H2_ := (Option.bind_some _ _).symm.trans H; rw [hy202]; with_reducible exact H2_) | (have H2_ := (Option.bind_some _ _).symm.trans H; with_reducible exact H2_) | with_reducible exact H | (rw [hy202]; exact H) | exact H
  have Ny202 := Aside0.mk hy202
  clear hy202
  have H' := Aside0.mk H
  clear H
  go_enter Try.func66, Try.ntmps66
  go_wp2_with (first | ((with_reducible refine gate_dst (N := 13) rfl ?_); refine Kd.N_lit (Kd.slice 3 (Kd.int .i64)) _ 27 ?hg (N' := 13) ?hd (xs := ([] : List (List Int))) (inner := []) (ok := (fun k_ => (P1_ k_ ∨ w.heap.size ≤ k_))) (okp := (fun k_ => (P1_ k_ ∨ w.heap.size ≤ k_))) ?hr ?hp (fun _ hk => hk) ((show ∀ k_, w.heap.size ≤ k_ → (fun k_ => (P1_ k_ ∨ w.heap.size ≤ k_)) k_ from fun k_ hk => (.inr (Nat.le_trans (below_size (zh0 HB)) hk))) _ (Nat.le_refl _)) (Below.refl _ _) (Nat.le_refl _) (by simp) ?_; (case hd => rfl); (case hg => rfl); (case hr => first | (go_simp; done) | (go_simp; rfl)); (case hp => exact (Reps.none _ _)); intro v203 w6 ho7 hb hg_ hnew_; clear hg_ hnew_; (first | rw [← Ny202.out] at ho7 | (simp only [Int.reduceToNat] at ho7; rw [← Ny202.out] at ho7)); have HO204 := Aside0.mk (Kd.N_lower ho7 (below_size (zh0 HB))); replace HO1 := Aside0.mk (Kd.V_elder' (by (with_reducible repeat (first | apply Kd.V_alloc | apply Kd.V_drewN | apply Kd.V_drew)); exact HO1.out) (Kd.N_base ho7) hb); replace HB := zhs HB hb; clear hb ho7))
  go_loopg [5, 6] k (fun kq v5 v6 w' => ∃ (x5_1 : List (List Int)) (x6_1 : Int), v6 = .int .i64 x6_1 ∧ Aside0 (spec_l8Orders.l0 kq a0 l1 x5_1 x6_1 = some r) ∧ Aside0 (kq ≤ k) ∧ Aside0 (Kd.V (Kd.int .i64) 3 w' w.heap.size (fun k_ => (P1_ k_ ∨ w.heap.size ≤ k_) ∧ some k_ ≠ (v5 : Value).ownBlock) (.slice A1 l1.length c1) l1) ∧ Aside0 (Kd.N (Kd.slice 3 (Kd.int .i64)) 27 w' w.heap.size (fun k_ => (P1_ k_ ∨ w.heap.size ≤ k_)) v5 x5_1) ∧ Aside0 (Below w.heap.size w w'))
  case atStart => exact ⟨(y202), (0), zfs, H', ⟨Nat.le_refl _⟩, ⟨by (with_reducible repeat (first | apply Kd.V_alloc | apply Kd.V_drewN | apply Kd.V_drew)); exact HO1.out⟩, ⟨by (with_reducible repeat (first | apply Kd.N_alloc | apply Kd.N_drewN | apply Kd.N_drew)); exact HO204.out⟩, ⟨by repeat (first | exact zh0 HB)⟩⟩
  case round =>
   clear H'
   try clear c1
   try clear p2
   try clear c3
   try clear c3b0
   try clear c3b1
   try clear c6
   obtain ⟨x5_1, x6_1, rfl, HA, HK1, HO_1, HO_5, HB⟩ := hrel
   cases gk with
   | zero => exact absurd HA.out (by simp [spec_l8Orders.l0])
   | succ k1 =>
    have H := HA.out
    clear HA
    simp only [spec_l8Orders.l0] at H
    by_cases c8 : x6_1 < a0
    ·rw [if_pos c8] at H
     have c8b0 : decide (x6_1 < a0) = true := decide_eq_true c8
     clear c8
     replace H := Option.bind_eq_some_iff.mp H
     obtain ⟨t205, A90, H⟩ := H
     replace H : (if t205 = true then (spec_l8Orders.l0 k1 a0 l1 x5_1 (wrap64 (x6_1 + 1))) else ((spec_l1Own.f l1).bind fun t206 => (if t206.length < 17592186044416 then ((spec_l8Orders.f k1 a0 (t206 ++ [x6_1])).bind fun t212 => (if x5_1.length + t212.length < 5864062014805 then (spec_l8Orders.l0 k1 a0 l1 (x5_1 ++ t212) (wrap64 (x6_1 + 1))) else (none))) else (none)))) = some r := H
     have A9 := Aside0.mk A90
     clear A90
     by_cases c10 : t205 = true
     ·subst c10
      have H1 : (spec_l8Orders.l0 k1 a0 l1 x5_1 (wrap64 (x6_1 + 1))) = some r := by rw [if_pos rfl] at H; exact H
      clear H
      have H := H1
      clear H1
      have H' := Aside0.mk H
      clear H
      go_wp2_with (first | ((with_reducible refine gate_callee (f := 108) rfl ?_); refine goesL_ (some 21) rfl rfl Try.func108 (by kernel_rfl) rfl #[.slice A1 l1.length c1, .int .i64 x6_1] rfl (by (try simp only [zq1, zq2, zq3]); first | done | rfl | (simp only [List.length_drop, List.length_take]; rfl)) ?_; (with_reducible refine (spec_l1Has.calls k1 _ _ l1 x6_1 true _ ?side1 ?side2 A9.out).mono ?_); (case side1 => repeat (first | exact (Kd.V_reads' HO_1.out).2.2 | (with_reducible refine Kd.C_alloc ?_ _) | (with_reducible refine Kd.C_drewN ?_ _) | (with_reducible refine Kd.C_drew ?_))); (case side2 => exact (Kd.V_reads' HO_1.out).2.1); rintro e w' ⟨rfl, ⟨nd, rfl⟩⟩; refine ⟨_, rfl, ?_⟩))
      go_roundg k1
      case measure => have := HK1.out; omega
      case rel => exact ⟨(x5_1), (wrap64 (x6_1 + 1)), zfs, H', ⟨by have := HK1.out; omega⟩, ⟨by (with_reducible repeat (first | apply Kd.V_alloc | apply Kd.V_drewN | apply Kd.V_drew)); exact HO_1.out⟩, ⟨by (with_reducible repeat (first | apply Kd.N_alloc | apply Kd.N_drewN | apply Kd.N_drew)); exact HO_5.out⟩, ⟨by repeat (first | exact zh0 HB)⟩⟩
     ·replace c10 := Bool.eq_false_iff.mpr c10
      subst c10
      have H1 : ((spec_l1Own.f l1).bind fun t206 => (if t206.length < 17592186044416 then ((spec_l8Orders.f k1 a0 (t206 ++ [x6_1])).bind fun t212 => (if x5_1.length + t212.length < 5864062014805 then (spec_l8Orders.l0 k1 a0 l1 (x5_1 ++ t212) (wrap64 (x6_1 + 1))) else (none))) else (none))) = some r := by rw [if_neg (show ¬ (false = true) by decide)] at H; exact H
      clear H
      have H := H1
      clear H1
      replace H := Option.bind_eq_some_iff.mp H
      obtain ⟨t206, A110, H⟩ := H
      replace H : (if t206.length < 17592186044416 then ((spec_l8Orders.f k1 a0 (t206 ++ [x6_1])).bind fun t212 => (if x5_1.length + t212.length < 5864062014805 then (spec_l8Orders.l0 k1 a0 l1 (x5_1 ++ t212) (wrap64 (x6_1 + 1))) else (none))) else (none)) = some r := H
      have A11 := Aside0.mk A110
      clear A110
      by_cases c12 : t206.length < 17592186044416
      ·rw [if_pos c12] at H
       have LMc12 := Aside0.mk c12
       clear c12
       obtain ⟨y209, hy209⟩ : ∃ y_ : List Int, y_ = (t206 ++ [x6_1]) := ⟨_, rfl⟩
       replace H : ((spec_l8Orders.f k1 a0 y209).bind fun t212 => (if x5_1.length + t212.length < 5864062014805 then (spec_l8Orders.l0 k1 a0 l1 (x5_1 ++ t212) (wrap64 (x6_1 + 1))) else (none))) = some r := by first | (rw [hy209]; with_reducible exact H) | (have H2_ := (Option.bind_some _ _).symm.trans H; rw [hy209]; with_reducible exact H2_) | (have H2_ := (Option.bind_some _ _).symm.trans H; with_reducible exact H2_) | with_reducible exact H | (rw [hy209]; exact H) | exact H
       have Ny209 := Aside0.mk hy209
       clear hy209
       replace H := Option.bind_eq_some_iff.mp H
       obtain ⟨t212, A130, H⟩ := H
       replace H : (if x5_1.length + t212.length < 5864062014805 then (spec_l8Orders.l0 k1 a0 l1 (x5_1 ++ t212) (wrap64 (x6_1 + 1))) else (none)) = some r := H
       have A13 := Aside0.mk A130
       clear A130
       by_cases c14 : x5_1.length + t212.length < 5864062014805
       ·rw [if_pos c14] at H
        have LMc14 := Aside0.mk c14
        clear c14
        obtain ⟨y215, hy215⟩ : ∃ y_ : List (List Int), y_ = (x5_1 ++ t212) := ⟨_, rfl⟩
        replace H : (spec_l8Orders.l0 k1 a0 l1 y215 (wrap64 (x6_1 + 1))) = some r := by first | (rw [hy215]; with_reducible exact H) | (have H2_ := (Option.bind_some _ _).symm.trans H; rw [hy215]; with_reducible exact H2_) | (have H2_ := (Option.bind_some _ _).symm.trans H; with_reducible exact H2_) | with_reducible exact H | (rw [hy215]; exact H) | exact H
        have Ny215 := Aside0.mk hy215
        clear hy215
        have H' := Aside0.mk H
        clear H
        go_wp2_with (first | ((with_reducible refine gate_callee (f := 108) rfl ?_); refine goesL_ (some 21) rfl rfl Try.func108 (by kernel_rfl) rfl #[.slice A1 l1.length c1, .int .i64 x6_1] rfl (by (try simp only [zq1, zq2, zq3]); first | done | rfl | (simp only [List.length_drop, List.length_take]; rfl)) ?_; (with_reducible refine (spec_l1Has.calls k1 _ _ l1 x6_1 false _ ?side1 ?side2 A9.out).mono ?_); (case side1 => repeat (first | exact (Kd.V_reads' HO_1.out).2.2 | (with_reducible refine Kd.C_alloc ?_ _) | (with_reducible refine Kd.C_drewN ?_ _) | (with_reducible refine Kd.C_drew ?_))); (case side2 => exact (Kd.V_reads' HO_1.out).2.1); rintro e w' ⟨rfl, ⟨nd, rfl⟩⟩; refine ⟨_, rfl, ?_⟩) | ((with_reducible refine gate_callee (f := 109) rfl ?_); refine goesL_ (some 26) rfl rfl Try.func109 (by kernel_rfl) rfl #[.slice A1 l1.length c1] rfl (by (try simp only [zq1, zq2, zq3]); first | done | rfl | (simp only [List.length_drop, List.length_take]; rfl)) ?_; (with_reducible refine (spec_l1Own.calls _ _ l1 t206 _ ?side1 ?side2 A11.out).mono ?_); (case side1 => repeat (first | exact (Kd.V_reads' HO_1.out).2.2 | (with_reducible refine Kd.C_alloc ?_ _) | (with_reducible refine Kd.C_drewN ?_ _) | (with_reducible refine Kd.C_drew ?_))); (case side2 => exact (Kd.V_reads' HO_1.out).2.1); rintro e w15 ⟨v207, rfl, ho0, hb⟩; refine ⟨_, rfl, ?_⟩; have HO208 := Aside0.mk (Kd.R_lower (Kd.R_newM (M := fun k_ => (w.heap.size ≤ k_)) ho0 (below_size (zh0 HB)) (fun k_ h_ => h_)) (below_size (zh0 HB))); replace HO_1 := Aside0.mk (Kd.V_elder' (by (with_reducible repeat (first | apply Kd.V_alloc | apply Kd.V_drewN | apply Kd.V_drew)); exact HO_1.out) (Kd.R_base ho0) hb); replace HO_5 := Aside0.mk (Kd.N_elder' (by (with_reducible repeat (first | apply Kd.N_alloc | apply Kd.N_drewN | apply Kd.N_drew)); exact HO_5.out) (Kd.R_base ho0) hb); replace HB := zhs HB hb; (try clear hb); (try clear hb2); (try clear hk); (try clear hi); (try clear ho0)) | ((with_reducible refine gate_builtin (b := .append) (xs := #[.tmp 26, .tmp 28]) rfl ?_); at_builtin; refine Kd.R_append (Kd.int .i64) (w0 := w) w.heap.size rfl (.tmp 26) (.tmp 28) 27 3 (.int .i64 0) 8 rfl Try.underlying27 info3 rfl (by decide) (by omega) v207 t206 x6_1 [.int .i64 x6_1] (fun k_ => (w.heap.size ≤ k_)) (fun _ => False) rfl rfl ?aP (fun _ hk => hk.elim) ?aF ?aO ?aB ?aS ?aL ?_; (case aP => exact rfl); (case aB => exact (zh0 HB)); (case aF => exact (fun k_ hk => (Nat.le_trans (below_size (zh0 HB)) hk))); (case aO => exact (by (with_reducible repeat (first | apply Kd.R_alloc | apply Kd.R_drewN | apply Kd.R_drew)); exact Kd.R_mono HO208.out (fun _ hk => hk.1))); (case aS => exact (below_size (zh0 HB))); (case aL => have := LMc12.out; omega); intro v210 w16 ho hb hg hat; rw [← Ny209.out] at ho; have n0_ := Aside0.mk (Kd.V_afterv (ok := (fun k_ => (P1_ k_ ∨ w.heap.size ≤ k_) ∧ some k_ ≠ (u5 : Value).ownBlock)) (by (with_reducible repeat (first | apply Kd.V_alloc | apply Kd.V_drewN | apply Kd.V_drew)); exact HO_1.out) hg hat); have n1_ := Aside0.mk (Kd.N_afterv (ok := (fun k_ => (P1_ k_ ∨ w.heap.size ≤ k_))) (by (with_reducible repeat (first | apply Kd.N_alloc | apply Kd.N_drewN | apply Kd.N_drew)); exact HO_5.out) hg hat); have n2_ := Aside0.mk (hb); have n3_ := Aside0.mk (ho); clear HO_1; clear HO_5; clear HB; clear HO208; have HO_1 := n0_; have HO_5 := n1_; have HB := n2_; have HO211 := n3_; clear n0_ n1_ n2_ n3_; clear ho hb hg hat; obtain ⟨Ao17, co17, eo17⟩ := Kd.R_slice HO211.out; subst eo17) | ((with_reducible refine gate_callee (f := 66) rfl ?_); refine goesL_ (some 30) rfl rfl Try.func66 (by kernel_rfl) rfl #[.int .i64 a0, .slice Ao17 y209.length co17] rfl (by (try simp only [zq1, zq2, zq3]); first | done | rfl | (simp only [List.length_drop, List.length_take]; rfl)) ?_; (with_reducible refine (ih k1 (by have := HK1.out; omega) a0 (fun k_ => some k_ = (.slice Ao17 y209.length co17 : Value).ownBlock) _ _ y209 t212 _ ?side1 A13.out).mono ?_); (case side1 => exact Kd.R_V (Kd.R_tight rfl (Kd.R_apart' (HO211.out) (Kd.N_typed HO_5.out) (by decide)))); rintro e w18 ⟨v213, rfl, ho0, hb⟩; refine ⟨_, rfl, ?_⟩; have HO214 := Aside0.mk (Kd.N_lower (Kd.N_mono (ok' := fun k_ => (P1_ k_ ∨ w.heap.size ≤ k_) ∧ some k_ ≠ (u5 : Value).ownBlock) ho0 (fun k_ hk_ => ⟨Or.elim hk_ (fun hs_ => (.inr (((Kd.R_apart' (HO211.out) (Kd.N_typed HO_5.out) (by decide)).1 k_ hs_.symm).1))) (fun hn_ => (.inr (Nat.le_trans (below_size (zh0 HB)) hn_))), Or.elim hk_ (fun hs_ => ((Kd.R_apart' (HO211.out) (Kd.N_typed HO_5.out) (by decide)).1 k_ hs_.symm).2) (fun hn_ => (Kd.fresh' (Kd.N_lt (by (with_reducible repeat (first | apply Kd.N_alloc | apply Kd.N_drewN | apply Kd.N_drew)); exact HO_5.out)) k_ hn_))⟩)) (below_size (zh0 HB))); replace HO_1 := Aside0.mk (Kd.V_elder' (by (with_reducible repeat (first | apply Kd.V_alloc | apply Kd.V_drewN | apply Kd.V_drew)); exact HO_1.out) (Kd.N_base ho0) hb); replace HO_5 := Aside0.mk (Kd.N_elder' (by (with_reducible repeat (first | apply Kd.N_alloc | apply Kd.N_drewN | apply Kd.N_drew)); exact HO_5.out) (Kd.N_base ho0) hb); replace HO211 := zrb HO211 hb; replace HB := zhs HB hb; (try clear hb); (try clear hb2); (try clear hk); (try clear hi); (try clear ho0); obtain ⟨Ao20, co20, eo20⟩ := Kd.N_slice HO214.out; subst eo20) | ((with_reducible refine gate_builtin (b := .append) (xs := #[.tmp 23, .tmp 30]) rfl ?_); at_builtin; refine Kd.N_append_rows (Kd.slice 3 (Kd.int .i64)) (w0 := w) w.heap.size rfl (.tmp 23) (.tmp 30) 91 27 (.slice none 0 0) 24 rfl Try.underlying91 info27 rfl (by decide) (by omega) u5 x5_1 t212 _ _ _ (fun k_ => (P1_ k_ ∨ w.heap.size ≤ k_)) (fun k_ => ((fun k_ => (P1_ k_ ∨ w.heap.size ≤ k_))) k_ ∧ some k_ ≠ (u5 : Value).ownBlock) rfl rfl ?aO ?aR (fun _ hk => hk) ?aF ?aB ?aS ?aL ?_; (case aR => exact (by skip; exact Kd.N_F (Kd.N_mono (ok' := (fun k_ => ((fun k_ => (P1_ k_ ∨ w.heap.size ≤ k_))) k_ ∧ some k_ ≠ (u5 : Value).ownBlock)) (HO214.out) (fun k_ hk => ⟨hk.1, hk.2⟩)))); (case aB => exact (zh0 HB)); (case aF => exact (fun k_ hk => (.inr (Nat.le_trans (below_size (zh0 HB)) hk)))); (case aO => exact (by (with_reducible repeat (first | apply Kd.N_alloc | apply Kd.N_drewN | apply Kd.N_drew)); exact Kd.N_mono HO_5.out (fun _ hk => hk.1.1))); (case aS => exact (below_size (zh0 HB))); (case aL => have := LMc14.out; omega); intro v216 w19 ho hb hg hat; rw [← Ny215.out] at ho; have n0_ := Aside0.mk (Kd.V_afterv (ok := (fun k_ => (P1_ k_ ∨ w.heap.size ≤ k_) ∧ some k_ ≠ (.slice Ao17 y209.length co17 : Value).ownBlock ∧ some k_ ≠ (.slice Ao20 t212.length co20 : Value).ownBlock)) (by (with_reducible repeat (first | apply Kd.V_alloc | apply Kd.V_drewN | apply Kd.V_drew)); exact Kd.V_mono HO_1.out (fun _ hk => ⟨⟨hk.1.1.1, ⟨hk.1.2, hk.2⟩⟩, hk.1.1.2⟩)) hg hat); have n1_ := Aside0.mk (Kd.R_over' (zr0 HO211) (Kd.N_typed (by (with_reducible repeat (first | apply Kd.N_alloc | apply Kd.N_drewN | apply Kd.N_drew)); exact HO_5.out)) (by decide) hg); have n2_ := Aside0.mk (Kd.N_afterv (ok := (fun k_ => (P1_ k_ ∨ w.heap.size ≤ k_))) (by (with_reducible repeat (first | apply Kd.N_alloc | apply Kd.N_drewN | apply Kd.N_drew)); exact HO214.out) hg hat); have n3_ := Aside0.mk (hb); have n4_ := Aside0.mk (ho); clear HO_1; clear HO211; clear HO214; clear HB; clear HO_5; have HO_1 := n0_; have HO211 := n1_; have HO214 := n2_; have HB := n3_; have HO217 := n4_; clear n0_ n1_ n2_ n3_ n4_; clear ho hb hg hat))
        go_roundg k1
        case measure => have := HK1.out; omega
        case rel => exact ⟨(y215), (wrap64 (x6_1 + 1)), zfs, H', ⟨by have := HK1.out; omega⟩, ⟨by (with_reducible repeat (first | apply Kd.V_alloc | apply Kd.V_drewN | apply Kd.V_drew)); exact Kd.V_mono HO_1.out (fun _ hk => ⟨hk.1.1, hk.2⟩)⟩, ⟨by (with_reducible repeat (first | apply Kd.N_alloc | apply Kd.N_drewN | apply Kd.N_drew)); exact HO217.out⟩, ⟨by repeat (first | exact zh0 HB)⟩⟩
       ·rw [if_neg c14] at H
        exact absurd H (by simp)
      ·rw [if_neg c12] at H
       exact absurd H (by simp)
    ·rw [if_neg c8] at H
     have c8b0 : decide (x6_1 < a0) = false := decide_eq_false c8
     clear c8
     obtain rfl := Option.some.inj H
     go_wp2
     go_ret
     exact ⟨_, by first | rfl | (simp <;> rfl) | (simp [*] <;> rfl), by (with_reducible repeat (first | apply Kd.N_alloc | apply Kd.N_drewN | apply Kd.N_drew)); (first | exact HO_5.out | exact Kd.R_mono HO_5.out (fun _ _ => trivial)), by repeat (first | exact zh0 HB)⟩

open Go.Proofs.Ytkifenbcepicjab.Cp
/-! ### spec_l8First: function 111 -/
def spec_l8First.f (a0 : Int) (a1 : Int) : Option (Int) := if a1 = 0 then (none) else (some (wrap64 ((wrap64 (Int.tdiv (wrap64 ((wrap64 (a0 + a1)) - 1)) a1)) * a1)))
set_option maxHeartbeats 8000000 in
set_option maxRecDepth 100000 in
theorem spec_l8First.calls (a0 : Int) (a1 : Int) (r : Int) (w : World) (h : spec_l8First.f a0 a1 = some r) :
  Calls Try.prog 111 #[.int .i64 a0, .int .i64 a1] w fun e w' => e = .returned (.int .i64 r) ∧ Drawn0 w w' := by
 have H : (if a1 = 0 then (none) else (some (wrap64 ((wrap64 (Int.tdiv (wrap64 ((wrap64 (a0 + a1)) - 1)) a1)) * a1)))) = some r := h
 clear h
 by_cases c3 : a1 = 0
 ·rw [if_pos c3] at H
  exact absurd H (by simp)
 ·rw [if_neg c3] at H
  have c3b0 : (a1 == 0) = false := beq_eq_false_iff_ne.mpr c3
  have c3b1 : (a1 != 0) = true := bne_iff_ne.mpr c3
  obtain rfl := Option.some.inj H
  go_enter Try.func111, Try.ntmps111
  go_wp2
  go_ret
  exact ⟨zfs, by repeat (first | exact Drawn0.refl _ | apply Drawn0.step)⟩

open Go.Proofs.Ytkifenbcepicjab.Cp
/-! ### spec_l8Fits: function 110 -/
def spec_l8Fits.f (l0_0 : List (List Int)) (a0_1 : Int) (a0_2 : Int) (a0_3 : Int) (a0_4 : Int) (a0_5 : Int) (l0_6 : List Int) (a1 : Int) (a2_0 : Int) (a2_1 : Int) : Option (Bool) := (spec_l8First.f a1 a2_1).bind fun t220 => (if t220 ≤ a0_3 then (some (decide (a2_0 ≤ (wrap64 (a0_3 - t220))))) else (some false))
set_option maxHeartbeats 8000000 in
set_option maxRecDepth 100000 in
theorem spec_l8Fits.calls (A0_0 : Option Addr) (c0_0 : Nat) (l0_0 : List (List Int)) (a0_1 : Int) (a0_2 : Int) (a0_3 : Int) (a0_4 : Int) (a0_5 : Int) (A0_6 : Option Addr) (c0_6 : Nat) (l0_6 : List Int) (a1 : Int) (a2_0 : Int) (a2_1 : Int) (r : Bool) (w : World) (hr0_0 : Kd.C (Kd.slice 5 (Kd.int .u8)) w A0_0 l0_0.length l0_0) (hc0_0 : l0_0.length ≤ c0_0) (hr0_6 : Kd.C (Kd.int .i64) w A0_6 l0_6.length l0_6) (hc0_6 : l0_6.length ≤ c0_6) (h : spec_l8Fits.f l0_0 a0_1 a0_2 a0_3 a0_4 a0_5 l0_6 a1 a2_0 a2_1 = some r) :
  Calls Try.prog 110 #[.agg #[.slice A0_0 l0_0.length c0_0, .int .i64 a0_1, .int .i64 a0_2, .int .i64 a0_3, .int .i64 a0_4, .int .i64 a0_5, .slice A0_6 l0_6.length c0_6], .int .i64 a1, .agg #[.int .i64 a2_0, .int .i64 a2_1]] w fun e w' => e = .returned (.bool r) ∧ Below w.heap.size w w' := by
 have hu38 := Try.underlying38
 have hu95 := Try.underlying95
 have HR0_0 := Aside0.mk hr0_0
 have HC0_0 := Aside0.mk hc0_0
 clear hr0_0 hc0_0
 have HR0_6 := Aside0.mk hr0_6
 have HC0_6 := Aside0.mk hc0_6
 clear hr0_6 hc0_6
 have HB := Aside0.mk (Below.refl w.heap.size w)
 have H : ((spec_l8First.f a1 a2_1).bind fun t220 => (if t220 ≤ a0_3 then (some (decide (a2_0 ≤ (wrap64 (a0_3 - t220))))) else (some false))) = some r := h
 clear h
 replace H := Option.bind_eq_some_iff.mp H
 obtain ⟨t220, A40, H⟩ := H
 replace H : (if t220 ≤ a0_3 then (some (decide (a2_0 ≤ (wrap64 (a0_3 - t220))))) else (some false)) = some r := H
 have A4 := Aside0.mk A40
 clear A40
 by_cases c5 : t220 ≤ a0_3
 ·rw [if_pos c5] at H
  have c5b0 : decide (t220 ≤ a0_3) = true := decide_eq_true c5
  clear c5
  obtain rfl := Option.some.inj H
  go_enter Try.func110, Try.ntmps110
  go_wp2_with (first | ((with_reducible refine gate_dst (N := 3) rfl ?_); refine box_event ?hg (N := 3) ?hd (cs := #[.slice A0_0 l0_0.length c0_0, .int .i64 a0_1, .int .i64 a0_2, .int .i64 a0_3, .int .i64 a0_4, .int .i64 a0_5, .slice A0_6 l0_6.length c0_6]) (t := 38) ?hr ?_; (case hd => rfl); (case hg => rfl); (case hr => first | (go_simp; done) | (go_simp; rfl)); intro gb218 hg w6 hbox hb; have BK218 := Aside0.mk (hbox); have GW218 := zge HB hg; have GE218 := zge HB hg; replace HB := zhs HB hb; clear hb hbox hg) | ((with_reducible refine gate_dst (N := 5) rfl ?_); refine box_event ?hg (N := 5) ?hd (cs := #[.int .i64 a2_0, .int .i64 a2_1]) (t := 95) ?hr ?_; (case hd => rfl); (case hg => rfl); (case hr => first | (go_simp; done) | (go_simp; rfl)); intro gb219 hg w7 hbox hb; have BK219 := Aside0.mk (hbox); have GW219 := zge HB hg; have GE219 := zge HB hg; have NB218_219 := znl BK218 hg; have NB219_218 := znr BK218 hg; replace BK218 := zb0 BK218 hb; replace HB := zhs HB hb; clear hb hbox hg; have hnb8 := NB219_218.out; have hnc8 := NB218_219.out; have hcz9_0 := zc0 BK219 0 rfl; have hcz9_1 := zc0 BK219 1 rfl; have hfz9_0 := blk_frozen BK219.out 0; have hfz9_1 := blk_frozen BK219.out 1) | ((with_reducible refine gate_callee (f := 111) rfl ?_); refine goesL_ (some 11) rfl rfl Try.func111 (by kernel_rfl) rfl #[.int .i64 a1, .int .i64 a2_1] rfl (by (try simp only [zq1, zq2, zq3]); first | done | rfl | (simp only [List.length_drop, List.length_take]; rfl)) ?_; (with_reducible refine (spec_l8First.calls a1 a2_1 t220 _ A4.out).mono ?_); rintro e w' ⟨rfl, ⟨nd, rfl⟩⟩; refine ⟨_, rfl, ?_⟩; have hcz10_0 := zc0 BK218 0 rfl; have hcz10_1 := zc0 BK218 1 rfl; have hcz10_2 := zc0 BK218 2 rfl; have hcz10_3 := zc0 BK218 3 rfl; have hcz10_4 := zc0 BK218 4 rfl; have hcz10_5 := zc0 BK218 5 rfl; have hcz10_6 := zc0 BK218 6 rfl; have hfz10_0 := blk_frozen BK218.out 0; have hfz10_1 := blk_frozen BK218.out 1; have hfz10_2 := blk_frozen BK218.out 2; have hfz10_3 := blk_frozen BK218.out 3; have hfz10_4 := blk_frozen BK218.out 4; have hfz10_5 := blk_frozen BK218.out 5; have hfz10_6 := blk_frozen BK218.out 6))
  go_ret
  exact ⟨zfr, by repeat (first | exact zh0 HB | refine below_set ?_ GE218.out | refine below_set ?_ GE219.out)⟩
 ·rw [if_neg c5] at H
  have c5b0 : decide (t220 ≤ a0_3) = false := decide_eq_false c5
  clear c5
  obtain rfl := Option.some.inj H
  go_enter Try.func110, Try.ntmps110
  go_wp2_with (first | ((with_reducible refine gate_dst (N := 3) rfl ?_); refine box_event ?hg (N := 3) ?hd (cs := #[.slice A0_0 l0_0.length c0_0, .int .i64 a0_1, .int .i64 a0_2, .int .i64 a0_3, .int .i64 a0_4, .int .i64 a0_5, .slice A0_6 l0_6.length c0_6]) (t := 38) ?hr ?_; (case hd => rfl); (case hg => rfl); (case hr => first | (go_simp; done) | (go_simp; rfl)); intro gb218 hg w11 hbox hb; have BK218 := Aside0.mk (hbox); have GW218 := zge HB hg; have GE218 := zge HB hg; replace HB := zhs HB hb; clear hb hbox hg) | ((with_reducible refine gate_dst (N := 5) rfl ?_); refine box_event ?hg (N := 5) ?hd (cs := #[.int .i64 a2_0, .int .i64 a2_1]) (t := 95) ?hr ?_; (case hd => rfl); (case hg => rfl); (case hr => first | (go_simp; done) | (go_simp; rfl)); intro gb219 hg w12 hbox hb; have BK219 := Aside0.mk (hbox); have GW219 := zge HB hg; have GE219 := zge HB hg; have NB218_219 := znl BK218 hg; have NB219_218 := znr BK218 hg; replace BK218 := zb0 BK218 hb; replace HB := zhs HB hb; clear hb hbox hg; have hnb13 := NB219_218.out; have hnc13 := NB218_219.out; have hcz14_0 := zc0 BK219 0 rfl; have hcz14_1 := zc0 BK219 1 rfl; have hfz14_0 := blk_frozen BK219.out 0; have hfz14_1 := blk_frozen BK219.out 1) | ((with_reducible refine gate_callee (f := 111) rfl ?_); refine goesL_ (some 11) rfl rfl Try.func111 (by kernel_rfl) rfl #[.int .i64 a1, .int .i64 a2_1] rfl (by (try simp only [zq1, zq2, zq3]); first | done | rfl | (simp only [List.length_drop, List.length_take]; rfl)) ?_; (with_reducible refine (spec_l8First.calls a1 a2_1 t220 _ A4.out).mono ?_); rintro e w' ⟨rfl, ⟨nd, rfl⟩⟩; refine ⟨_, rfl, ?_⟩; have hcz15_0 := zc0 BK218 0 rfl; have hcz15_1 := zc0 BK218 1 rfl; have hcz15_2 := zc0 BK218 2 rfl; have hcz15_3 := zc0 BK218 3 rfl; have hcz15_4 := zc0 BK218 4 rfl; have hcz15_5 := zc0 BK218 5 rfl; have hcz15_6 := zc0 BK218 6 rfl; have hfz15_0 := blk_frozen BK218.out 0; have hfz15_1 := blk_frozen BK218.out 1; have hfz15_2 := blk_frozen BK218.out 2; have hfz15_3 := blk_frozen BK218.out 3; have hfz15_4 := blk_frozen BK218.out 4; have hfz15_5 := blk_frozen BK218.out 5; have hfz15_6 := blk_frozen BK218.out 6))
  go_ret
  exact ⟨zfr, by repeat (first | exact zh0 HB | refine below_set ?_ GE218.out | refine below_set ?_ GE219.out)⟩

open Go.Proofs.Ytkifenbcepicjab.Cp
/-! ### spec_l8Used: function 67 -/
def spec_l8Used.l0 : Nat → List (S95) → List Int → Int → Int → List (List Int) → Int → Int → Int → Int → Int → List Int → Option (Int)
 | 0, _, _, _, _, _, _, _, _, _, _, _ => none
 | k + 1, x1, x2, x7, x8, x222000, x222001, x222002, x222003, x222004, x222005, x222006 => if x8 < (x2.length : Int) then (if 0 ≤ x8 then (if 0 ≤ (rd x2 x8) then (if (rd x2 x8) < (x1.length : Int) then ((spec_l8Fits.f x222000 x222001 x222002 x222003 x222004 x222005 x222006 x7 ((rd_T95 x1 (rd x2 x8)).f0) ((rd_T95 x1 (rd x2 x8)).f1)).bind fun t225 => (if t225 = true then ((spec_l8First.f x7 ((rd_T95 x1 (rd x2 x8)).f1)).bind fun t226 => (spec_l8Used.l0 k x1 x2 (wrap64 (t226 + ((rd_T95 x1 (rd x2 x8)).f0))) (wrap64 (x8 + 1)) x222000 x222001 x222002 x222003 x222004 x222005 x222006)) else (some (-1)))) else (none)) else (none)) else (none)) else (some x7)
def spec_l8Used.f (k : Nat) (l0_0 : List (List Int)) (a0_1 : Int) (a0_2 : Int) (a0_3 : Int) (a0_4 : Int) (a0_5 : Int) (l0_6 : List Int) (l1 : List (S95)) (l2 : List Int) : Option (Int) := spec_l8Used.l0 k l1 l2 a0_5 0 l0_0 a0_1 a0_2 a0_3 a0_4 a0_5 l0_6
theorem spec_l8Used.mono_l : ∀ k, (∀ y0 y1 y2 y3 y4 y5 y6 y7 y8 y9 y10, LeO (spec_l8Used.l0 k y0 y1 y2 y3 y4 y5 y6 y7 y8 y9 y10) (spec_l8Used.l0 (k + 1) y0 y1 y2 y3 y4 y5 y6 y7 y8 y9 y10))
 | 0 => fun _ _ _ _ _ _ _ _ _ _ _ r h => by simp [spec_l8Used.l0] at h
 | k + 1 => by
  have ih0 := spec_l8Used.mono_l k
  ·intro y0 y1 y2 y3 y4 y5 y6 y7 y8 y9 y10
   unfold spec_l8Used.l0
   repeat' first
   | (with_reducible exact ih0 _ _ _ _ _ _ _ _ _ _ _)
   | (with_reducible exact LeO.refl _)
   | (with_reducible exact LeO.none _)
   | (with_reducible refine LeO.ite ?_ ?_)
   | (with_reducible refine LeO.bind ?_ (fun _ => ?_))
   | exact ih0 _ _ _ _ _ _ _ _ _ _ _
   | exact LeO.none _
   | refine LeO.ite ?_ ?_
   | refine LeO.bind ?_ (fun _ => ?_)
theorem spec_l8Used.mono : ∀ a0 a1 a2 a3 a4 a5 a6 a7 a8 k, LeO (spec_l8Used.f k a0 a1 a2 a3 a4 a5 a6 a7 a8) (spec_l8Used.f (k + 1) a0 a1 a2 a3 a4 a5 a6 a7 a8) := by
 intro a0 a1 a2 a3 a4 a5 a6 a7 a8 k
 have ih0 := spec_l8Used.mono_l k
 unfold spec_l8Used.f
 repeat' first
   | (with_reducible exact ih0 _ _ _ _ _ _ _ _ _ _ _)
   | (with_reducible exact LeO.refl _)
   | (with_reducible exact LeO.none _)
   | (with_reducible refine LeO.ite ?_ ?_)
   | (with_reducible refine LeO.bind ?_ (fun _ => ?_))
   | exact ih0 _ _ _ _ _ _ _ _ _ _ _
   | exact LeO.none _
   | refine LeO.ite ?_ ?_
   | refine LeO.bind ?_ (fun _ => ?_)
set_option maxHeartbeats 8000000 in
set_option maxRecDepth 100000 in
theorem spec_l8Used.calls (k : Nat) (A0_0 : Option Addr) (c0_0 : Nat) (l0_0 : List (List Int)) (a0_1 : Int) (a0_2 : Int) (a0_3 : Int) (a0_4 : Int) (a0_5 : Int) (A0_6 : Option Addr) (c0_6 : Nat) (l0_6 : List Int) (A1 : Option Addr) (c1 : Nat) (l1 : List (S95)) (A2 : Option Addr) (c2 : Nat) (l2 : List Int) (r : Int) (w : World) (hr0_0 : Kd.C (Kd.slice 5 (Kd.int .u8)) w A0_0 l0_0.length l0_0) (hc0_0 : l0_0.length ≤ c0_0) (hr0_6 : Kd.C (Kd.int .i64) w A0_6 l0_6.length l0_6) (hc0_6 : l0_6.length ≤ c0_6) (hr1 : Kd.C k95 w A1 l1.length l1) (hc1 : l1.length ≤ c1) (hr2 : Kd.C (Kd.int .i64) w A2 l2.length l2) (hc2 : l2.length ≤ c2) (h : spec_l8Used.f k l0_0 a0_1 a0_2 a0_3 a0_4 a0_5 l0_6 l1 l2 = some r) :
  Calls Try.prog 67 #[.agg #[.slice A0_0 l0_0.length c0_0, .int .i64 a0_1, .int .i64 a0_2, .int .i64 a0_3, .int .i64 a0_4, .int .i64 a0_5, .slice A0_6 l0_6.length c0_6], .slice A1 l1.length c1, .slice A2 l2.length c2] w fun e w' => e = .returned (.int .i64 r) ∧ Below w.heap.size w w' := by
 have hu38 := Try.underlying38
 have hu95 := Try.underlying95
 have HR0_0 := Aside0.mk hr0_0
 have HC0_0 := Aside0.mk hc0_0
 clear hr0_0 hc0_0
 have HR0_6 := Aside0.mk hr0_6
 have HC0_6 := Aside0.mk hc0_6
 clear hr0_6 hc0_6
 have HR1 := Aside0.mk hr1
 have HC1 := Aside0.mk hc1
 clear hr1 hc1
 have HR2 := Aside0.mk hr2
 have HC2 := Aside0.mk hc2
 clear hr2 hc2
 have HB := Aside0.mk (Below.refl w.heap.size w)
 have H : (spec_l8Used.l0 k l1 l2 a0_5 0 l0_0 a0_1 a0_2 a0_3 a0_4 a0_5 l0_6) = some r := h
 clear h
 have H' := Aside0.mk H
 clear H
 go_enter Try.func67, Try.ntmps67
 go_wp2_with (first | ((with_reducible refine gate_dst (N := 3) rfl ?_); refine box_event ?hg (N := 3) ?hd (cs := #[.slice A0_0 l0_0.length c0_0, .int .i64 a0_1, .int .i64 a0_2, .int .i64 a0_3, .int .i64 a0_4, .int .i64 a0_5, .slice A0_6 l0_6.length c0_6]) (t := 38) ?hr ?_; (case hd => rfl); (case hg => rfl); (case hr => first | (go_simp; done) | (go_simp; rfl)); intro gb221 hg w4 hbox hb; have BK221 := Aside0.mk (hbox); have GW221 := zge HB hg; have GE221 := zge HB hg; replace HB := zhs HB hb; clear hb hbox hg; have hcz5_0 := zc0 BK221 0 rfl; have hcz5_1 := zc0 BK221 1 rfl; have hcz5_2 := zc0 BK221 2 rfl; have hcz5_3 := zc0 BK221 3 rfl; have hcz5_4 := zc0 BK221 4 rfl; have hcz5_5 := zc0 BK221 5 rfl; have hcz5_6 := zc0 BK221 6 rfl; have hfz5_0 := blk_frozen BK221.out 0; have hfz5_1 := blk_frozen BK221.out 1; have hfz5_2 := blk_frozen BK221.out 2; have hfz5_3 := blk_frozen BK221.out 3; have hfz5_4 := blk_frozen BK221.out 4; have hfz5_5 := blk_frozen BK221.out 5; have hfz5_6 := blk_frozen BK221.out 6))
 repeat (go_quiet (first | ((with_reducible refine gate_dst (N := 3) rfl ?_); refine box_event ?hg (N := 3) ?hd (cs := #[.slice A0_0 l0_0.length c0_0, .int .i64 a0_1, .int .i64 a0_2, .int .i64 a0_3, .int .i64 a0_4, .int .i64 a0_5, .slice A0_6 l0_6.length c0_6]) (t := 38) ?hr ?_; (case hd => rfl); (case hg => rfl); (case hr => first | (go_simp; done) | (go_simp; rfl)); intro gb221 hg w4 hbox hb; have BK221 := Aside0.mk (hbox); have GW221 := zge HB hg; have GE221 := zge HB hg; replace HB := zhs HB hb; clear hb hbox hg; have hcz5_0 := zc0 BK221 0 rfl; have hcz5_1 := zc0 BK221 1 rfl; have hcz5_2 := zc0 BK221 2 rfl; have hcz5_3 := zc0 BK221 3 rfl; have hcz5_4 := zc0 BK221 4 rfl; have hcz5_5 := zc0 BK221 5 rfl; have hcz5_6 := zc0 BK221 6 rfl; have hfz5_0 := blk_frozen BK221.out 0; have hfz5_1 := blk_frozen BK221.out 1; have hfz5_2 := blk_frozen BK221.out 2; have hfz5_3 := blk_frozen BK221.out 3; have hfz5_4 := blk_frozen BK221.out 4; have hfz5_5 := blk_frozen BK221.out 5; have hfz5_6 := blk_frozen BK221.out 6)); try go_wp2_with (first | ((with_reducible refine gate_dst (N := 3) rfl ?_); refine box_event ?hg (N := 3) ?hd (cs := #[.slice A0_0 l0_0.length c0_0, .int .i64 a0_1, .int .i64 a0_2, .int .i64 a0_3, .int .i64 a0_4, .int .i64 a0_5, .slice A0_6 l0_6.length c0_6]) (t := 38) ?hr ?_; (case hd => rfl); (case hg => rfl); (case hr => first | (go_simp; done) | (go_simp; rfl)); intro gb221 hg w4 hbox hb; have BK221 := Aside0.mk (hbox); have GW221 := zge HB hg; have GE221 := zge HB hg; replace HB := zhs HB hb; clear hb hbox hg; have hcz5_0 := zc0 BK221 0 rfl; have hcz5_1 := zc0 BK221 1 rfl; have hcz5_2 := zc0 BK221 2 rfl; have hcz5_3 := zc0 BK221 3 rfl; have hcz5_4 := zc0 BK221 4 rfl; have hcz5_5 := zc0 BK221 5 rfl; have hcz5_6 := zc0 BK221 6 rfl; have hfz5_0 := blk_frozen BK221.out 0; have hfz5_1 := blk_frozen BK221.out 1; have hfz5_2 := blk_frozen BK221.out 2; have hfz5_3 := blk_frozen BK221.out 3; have hfz5_4 := blk_frozen BK221.out 4; have hfz5_5 := blk_frozen BK221.out 5; have hfz5_6 := blk_frozen BK221.out 6)))
 go_loopg [7, 8] k (fun kq v7 v8 w' => ∃ (x7_1 : Int) (x8_1 : Int), v7 = .int .i64 x7_1 ∧ v8 = .int .i64 x8_1 ∧ Aside0 (spec_l8Used.l0 kq l1 l2 x7_1 x8_1 l0_0 a0_1 a0_2 a0_3 a0_4 a0_5 l0_6 = some r) ∧ Aside0 (kq ≤ k) ∧ Aside0 (w'.heap[gb221]? = some (.cells #[(.slice A0_0 l0_0.length c0_0), .int .i64 a0_1, .int .i64 a0_2, .int .i64 a0_3, .int .i64 a0_4, .int .i64 a0_5, (.slice A0_6 l0_6.length c0_6)] 38 (0, 0))) ∧ Aside0 (Below w.heap.size w w'))
 case atStart => exact ⟨(a0_5), (0), zfs, zfs, H', ⟨Nat.le_refl _⟩, ⟨zk0 BK221⟩, ⟨by repeat (first | exact zh0 HB | refine below_set ?_ GE221.out)⟩⟩
 case round =>
  clear H'
  try clear c1
  try clear c2
  try clear p2
  try clear hcz5_0
  try clear hcz5_1
  try clear hcz5_2
  try clear hcz5_3
  try clear hcz5_4
  try clear hcz5_5
  try clear hcz5_6
  try clear hfz5_0
  try clear hfz5_1
  try clear hfz5_2
  try clear hfz5_3
  try clear hfz5_4
  try clear hfz5_5
  try clear hfz5_6
  obtain ⟨x7_1, x8_1, rfl, rfl, HA, HK1, BK221, HB⟩ := hrel
  cases gk with
  | zero => exact absurd HA.out (by simp [spec_l8Used.l0])
  | succ k1 =>
   have H := HA.out
   clear HA
   simp only [spec_l8Used.l0] at H
   by_cases c6 : x8_1 < (l2.length : Int)
   ·rw [if_pos c6] at H
    have c6b0 : decide (x8_1 < (l2.length : Int)) = true := decide_eq_true c6
    clear c6
    by_cases c7 : 0 ≤ x8_1
    ·rw [if_pos c7] at H
     have c7b0 : decide (0 ≤ x8_1) = true := decide_eq_true c7
     clear c7
     by_cases c8 : 0 ≤ (rd l2 x8_1)
     ·rw [if_pos c8] at H
      have c8b0 : decide (0 ≤ (rd l2 x8_1)) = true := decide_eq_true c8
      clear c8
      by_cases c9 : (rd l2 x8_1) < (l1.length : Int)
      ·rw [if_pos c9] at H
       have c9b0 : decide ((rd l2 x8_1) < (l1.length : Int)) = true := decide_eq_true c9
       clear c9
       replace H := Option.bind_eq_some_iff.mp H
       obtain ⟨t225, A100, H⟩ := H
       replace H : (if t225 = true then ((spec_l8First.f x7_1 ((rd_T95 l1 (rd l2 x8_1)).f1)).bind fun t226 => (spec_l8Used.l0 k1 l1 l2 (wrap64 (t226 + ((rd_T95 l1 (rd l2 x8_1)).f0))) (wrap64 (x8_1 + 1)) l0_0 a0_1 a0_2 a0_3 a0_4 a0_5 l0_6)) else (some (-1))) = some r := H
       have A10 := Aside0.mk A100
       clear A100
       by_cases c11 : t225 = true
       ·subst c11
        have H1 : ((spec_l8First.f x7_1 ((rd_T95 l1 (rd l2 x8_1)).f1)).bind fun t226 => (spec_l8Used.l0 k1 l1 l2 (wrap64 (t226 + ((rd_T95 l1 (rd l2 x8_1)).f0))) (wrap64 (x8_1 + 1)) l0_0 a0_1 a0_2 a0_3 a0_4 a0_5 l0_6)) = some r := by rw [if_pos rfl] at H; exact H
        clear H
        have H := H1
        clear H1
        replace H := Option.bind_eq_some_iff.mp H
        obtain ⟨t226, A120, H⟩ := H
        replace H : (spec_l8Used.l0 k1 l1 l2 (wrap64 (t226 + ((rd_T95 l1 (rd l2 x8_1)).f0))) (wrap64 (x8_1 + 1)) l0_0 a0_1 a0_2 a0_3 a0_4 a0_5 l0_6) = some r := H
        have A12 := Aside0.mk A120
        clear A120
        have H' := Aside0.mk H
        clear H
        have p222 : 0 ≤ (x8_1 : Int) := zod
        have q222 : x8_1 < (l2.length : Int) := zod
        obtain ⟨ad222, e222, hx222_0⟩ := Kd.at_int HR2.out x8_1 p222 q222
        cases e222
        replace hx222_0 := (HB.out.cell (World.block_lt_of_cell? w _ hx222_0)).trans hx222_0
        replace p222 := eq_true p222
        replace q222 := eq_true q222
        have p223 : 0 ≤ ((rd l2 x8_1) : Int) := zod
        have q223 : (rd l2 x8_1) < (l1.length : Int) := zod
        obtain ⟨ad223, e223, hx223_0, hx223_1⟩ := at_T95 HR1.out (rd l2 x8_1) p223 q223
        cases e223
        replace hx223_0 := (HB.out.cell (World.block_lt_of_cell? w _ hx223_0)).trans hx223_0
        replace hx223_1 := (HB.out.cell (World.block_lt_of_cell? w _ hx223_1)).trans hx223_1
        replace p223 := eq_true p223
        replace q223 := eq_true q223
        go_wp2_with (first | ((with_reducible refine gate_dst (N := 9) rfl ?_); refine box_event ?hg (N := 9) ?hd (cs := #[.int .i64 0, .int .i64 0]) (t := 95) ?hr ?_; (case hd => rfl); (case hg => rfl); (case hr => first | (go_simp; done) | (go_simp; rfl)); intro gb224 hg w13 hbox hb; have BK224 := Aside0.mk (hbox); have GW224 := zge HB hg; have GE224 := zge HB hg; have NB221_224 := Aside0.mk ((by rw [hg]; exact Nat.ne_of_lt (blk_lt (g := gb221) (o := .cells #[.slice A0_0 l0_0.length c0_0, .int .i64 a0_1, .int .i64 a0_2, .int .i64 a0_3, .int .i64 a0_4, .int .i64 a0_5, .slice A0_6 l0_6.length c0_6] 38 (0, 0)) (by (with_reducible repeat (first | refine blk_drewN ?_ _ | refine blk_drew ?_ | refine blk_alloc ?_ _)); exact BK221.out)) : gb221 ≠ gb224)); have NB224_221 := Aside0.mk ((by rw [hg]; exact Nat.ne_of_gt (blk_lt (g := gb221) (o := .cells #[.slice A0_0 l0_0.length c0_0, .int .i64 a0_1, .int .i64 a0_2, .int .i64 a0_3, .int .i64 a0_4, .int .i64 a0_5, .slice A0_6 l0_6.length c0_6] 38 (0, 0)) (by (with_reducible repeat (first | refine blk_drewN ?_ _ | refine blk_drew ?_ | refine blk_alloc ?_ _)); exact BK221.out)) : gb224 ≠ gb221)); replace BK221 := Aside0.mk (blk_below (g := gb221) (o := .cells #[.slice A0_0 l0_0.length c0_0, .int .i64 a0_1, .int .i64 a0_2, .int .i64 a0_3, .int .i64 a0_4, .int .i64 a0_5, .slice A0_6 l0_6.length c0_6] 38 (0, 0)) (by (with_reducible repeat (first | refine blk_drewN ?_ _ | refine blk_drew ?_ | refine blk_alloc ?_ _)); exact BK221.out) hb); replace HB := zhs HB hb; clear hb hbox hg; have hnb14 := NB224_221.out; have hnc14 := NB221_224.out; have hcz15_0 := zc0 BK224 0 rfl; have hcz15_1 := zc0 BK224 1 rfl; have hfz15_0 := blk_frozen BK224.out 0; have hfz15_1 := blk_frozen BK224.out 1; have hcz16_0 := zc0 BK221 0 rfl; have hcz16_1 := zc0 BK221 1 rfl; have hcz16_2 := zc0 BK221 2 rfl; have hcz16_3 := zc0 BK221 3 rfl; have hcz16_4 := zc0 BK221 4 rfl; have hcz16_5 := zc0 BK221 5 rfl; have hcz16_6 := zc0 BK221 6 rfl; have hfz16_0 := blk_frozen BK221.out 0; have hfz16_1 := blk_frozen BK221.out 1; have hfz16_2 := blk_frozen BK221.out 2; have hfz16_3 := blk_frozen BK221.out 3; have hfz16_4 := blk_frozen BK221.out 4; have hfz16_5 := blk_frozen BK221.out 5; have hfz16_6 := blk_frozen BK221.out 6) | (go_at_call 110; (with_reducible refine (spec_l8Fits.calls _ _ l0_0 a0_1 a0_2 a0_3 a0_4 a0_5 _ _ l0_6 x7_1 ((rd_T95 l1 (rd l2 x8_1)).f0) ((rd_T95 l1 (rd l2 x8_1)).f1) true _ ?side1 ?side2 ?side3 ?side4 A10.out).mono ?_); (case side1 => exact Kd.C_below HR0_0.out (by repeat (first | exact zh0 HB | refine below_set ?_ GE221.out | refine below_set ?_ GE224.out))); (case side2 => exact HC0_0.out); (case side3 => exact Kd.C_below HR0_6.out (by repeat (first | exact zh0 HB | refine below_set ?_ GE221.out | refine below_set ?_ GE224.out))); (case side4 => exact HC0_6.out); rintro e w17 ⟨rfl, hb⟩; replace BK221 := Aside0.mk (blk_below (g := gb221) (o := .cells #[.slice A0_0 l0_0.length c0_0, .int .i64 a0_1, .int .i64 a0_2, .int .i64 a0_3, .int .i64 a0_4, .int .i64 a0_5, .slice A0_6 l0_6.length c0_6] 38 (0, 0)) (by (with_reducible repeat (first | refine blk_drewN ?_ _ | refine blk_drew ?_ | refine blk_alloc ?_ _)); refine blk_far ?_ NB221_224.out _; refine blk_far ?_ NB221_224.out _; (with_reducible repeat (first | refine blk_drewN ?_ _ | refine blk_drew ?_ | refine blk_alloc ?_ _)); exact BK221.out) hb); replace BK224 := Aside0.mk (blk_below (g := gb224) (o := .cells #[.int .i64 ((rd_T95 l1 (rd l2 x8_1)).f0), .int .i64 ((rd_T95 l1 (rd l2 x8_1)).f1)] 95 (0, 0)) (by (with_reducible repeat (first | refine blk_drewN ?_ _ | refine blk_drew ?_ | refine blk_alloc ?_ _)); refine blk_put (cs := #[.int .i64 ((rd_T95 l1 (rd l2 x8_1)).f0), .int .i64 0]) ?_ 1 _ rfl; refine blk_put (cs := #[.int .i64 0, .int .i64 0]) ?_ 0 _ rfl; (with_reducible repeat (first | refine blk_drewN ?_ _ | refine blk_drew ?_ | refine blk_alloc ?_ _)); exact BK224.out) hb); replace HB := Aside0.mk (below_step (by repeat (first | exact zh0 HB | refine below_set ?_ GE221.out | refine below_set ?_ GE224.out)) hb); (try clear hb); have hcz18_0 := zc0 BK224 0 rfl; have hcz18_1 := zc0 BK224 1 rfl; have hfz18_0 := blk_frozen BK224.out 0; have hfz18_1 := blk_frozen BK224.out 1) | (go_at_call 111; (with_reducible refine (spec_l8First.calls x7_1 ((rd_T95 l1 (rd l2 x8_1)).f1) t226 _ A12.out).mono ?_); rintro e w' ⟨rfl, ⟨nd, rfl⟩⟩; (try first | exact ⟨rfl, _, World.drewN_drewN _ _ _⟩ | exact ⟨rfl, _, Eq.trans (World.drewN_drewN _ _ _) (congrArg (World.drewN _) (Nat.add_assoc _ _ _))⟩)))
        repeat (go_quiet (first | ((with_reducible refine gate_dst (N := 9) rfl ?_); refine box_event ?hg (N := 9) ?hd (cs := #[.int .i64 0, .int .i64 0]) (t := 95) ?hr ?_; (case hd => rfl); (case hg => rfl); (case hr => first | (go_simp; done) | (go_simp; rfl)); intro gb224 hg w13 hbox hb; have BK224 := Aside0.mk (hbox); have GW224 := zge HB hg; have GE224 := zge HB hg; have NB221_224 := Aside0.mk ((by rw [hg]; exact Nat.ne_of_lt (blk_lt (g := gb221) (o := .cells #[.slice A0_0 l0_0.length c0_0, .int .i64 a0_1, .int .i64 a0_2, .int .i64 a0_3, .int .i64 a0_4, .int .i64 a0_5, .slice A0_6 l0_6.length c0_6] 38 (0, 0)) (by (with_reducible repeat (first | refine blk_drewN ?_ _ | refine blk_drew ?_ | refine blk_alloc ?_ _)); exact BK221.out)) : gb221 ≠ gb224)); have NB224_221 := Aside0.mk ((by rw [hg]; exact Nat.ne_of_gt (blk_lt (g := gb221) (o := .cells #[.slice A0_0 l0_0.length c0_0, .int .i64 a0_1, .int .i64 a0_2, .int .i64 a0_3, .int .i64 a0_4, .int .i64 a0_5, .slice A0_6 l0_6.length c0_6] 38 (0, 0)) (by (with_reducible repeat (first | refine blk_drewN ?_ _ | refine blk_drew ?_ | refine blk_alloc ?_ _)); exact BK221.out)) : gb224 ≠ gb221)); replace BK221 := Aside0.mk (blk_below (g := gb221) (o := .cells #[.slice A0_0 l0_0.length c0_0, .int .i64 a0_1, .int .i64 a0_2, .int .i64 a0_3, .int .i64 a0_4, .int .i64 a0_5, .slice A0_6 l0_6.length c0_6] 38 (0, 0)) (by (with_reducible repeat (first | refine blk_drewN ?_ _ | refine blk_drew ?_ | refine blk_alloc ?_ _)); exact BK221.out) hb); replace HB := zhs HB hb; clear hb hbox hg; have hnb14 := NB224_221.out; have hnc14 := NB221_224.out; have hcz15_0 := zc0 BK224 0 rfl; have hcz15_1 := zc0 BK224 1 rfl; have hfz15_0 := blk_frozen BK224.out 0; have hfz15_1 := blk_frozen BK224.out 1; have hcz16_0 := zc0 BK221 0 rfl; have hcz16_1 := zc0 BK221 1 rfl; have hcz16_2 := zc0 BK221 2 rfl; have hcz16_3 := zc0 BK221 3 rfl; have hcz16_4 := zc0 BK221 4 rfl; have hcz16_5 := zc0 BK221 5 rfl; have hcz16_6 := zc0 BK221 6 rfl; have hfz16_0 := blk_frozen BK221.out 0; have hfz16_1 := blk_frozen BK221.out 1; have hfz16_2 := blk_frozen BK221.out 2; have hfz16_3 := blk_frozen BK221.out 3; have hfz16_4 := blk_frozen BK221.out 4; have hfz16_5 := blk_frozen BK221.out 5; have hfz16_6 := blk_frozen BK221.out 6) | (go_at_call 110; (with_reducible refine (spec_l8Fits.calls _ _ l0_0 a0_1 a0_2 a0_3 a0_4 a0_5 _ _ l0_6 x7_1 ((rd_T95 l1 (rd l2 x8_1)).f0) ((rd_T95 l1 (rd l2 x8_1)).f1) true _ ?side1 ?side2 ?side3 ?side4 A10.out).mono ?_); (case side1 => exact Kd.C_below HR0_0.out (by repeat (first | exact zh0 HB | refine below_set ?_ GE221.out | refine below_set ?_ GE224.out))); (case side2 => exact HC0_0.out); (case side3 => exact Kd.C_below HR0_6.out (by repeat (first | exact zh0 HB | refine below_set ?_ GE221.out | refine below_set ?_ GE224.out))); (case side4 => exact HC0_6.out); rintro e w17 ⟨rfl, hb⟩; replace BK221 := Aside0.mk (blk_below (g := gb221) (o := .cells #[.slice A0_0 l0_0.length c0_0, .int .i64 a0_1, .int .i64 a0_2, .int .i64 a0_3, .int .i64 a0_4, .int .i64 a0_5, .slice A0_6 l0_6.length c0_6] 38 (0, 0)) (by (with_reducible repeat (first | refine blk_drewN ?_ _ | refine blk_drew ?_ | refine blk_alloc ?_ _)); refine blk_far ?_ NB221_224.out _; refine blk_far ?_ NB221_224.out _; (with_reducible repeat (first | refine blk_drewN ?_ _ | refine blk_drew ?_ | refine blk_alloc ?_ _)); exact BK221.out) hb); replace BK224 := Aside0.mk (blk_below (g := gb224) (o := .cells #[.int .i64 ((rd_T95 l1 (rd l2 x8_1)).f0), .int .i64 ((rd_T95 l1 (rd l2 x8_1)).f1)] 95 (0, 0)) (by (with_reducible repeat (first | refine blk_drewN ?_ _ | refine blk_drew ?_ | refine blk_alloc ?_ _)); refine blk_put (cs := #[.int .i64 ((rd_T95 l1 (rd l2 x8_1)).f0), .int .i64 0]) ?_ 1 _ rfl; refine blk_put (cs := #[.int .i64 0, .int .i64 0]) ?_ 0 _ rfl; (with_reducible repeat (first | refine blk_drewN ?_ _ | refine blk_drew ?_ | refine blk_alloc ?_ _)); exact BK224.out) hb); replace HB := Aside0.mk (below_step (by repeat (first | exact zh0 HB | refine below_set ?_ GE221.out | refine below_set ?_ GE224.out)) hb); (try clear hb); have hcz18_0 := zc0 BK224 0 rfl; have hcz18_1 := zc0 BK224 1 rfl; have hfz18_0 := blk_frozen BK224.out 0; have hfz18_1 := blk_frozen BK224.out 1) | (go_at_call 111; (with_reducible refine (spec_l8First.calls x7_1 ((rd_T95 l1 (rd l2 x8_1)).f1) t226 _ A12.out).mono ?_); rintro e w' ⟨rfl, ⟨nd, rfl⟩⟩; (try first | exact ⟨rfl, _, World.drewN_drewN _ _ _⟩ | exact ⟨rfl, _, Eq.trans (World.drewN_drewN _ _ _) (congrArg (World.drewN _) (Nat.add_assoc _ _ _))⟩))); try go_wp2_with (first | ((with_reducible refine gate_dst (N := 9) rfl ?_); refine box_event ?hg (N := 9) ?hd (cs := #[.int .i64 0, .int .i64 0]) (t := 95) ?hr ?_; (case hd => rfl); (case hg => rfl); (case hr => first | (go_simp; done) | (go_simp; rfl)); intro gb224 hg w13 hbox hb; have BK224 := Aside0.mk (hbox); have GW224 := zge HB hg; have GE224 := zge HB hg; have NB221_224 := Aside0.mk ((by rw [hg]; exact Nat.ne_of_lt (blk_lt (g := gb221) (o := .cells #[.slice A0_0 l0_0.length c0_0, .int .i64 a0_1, .int .i64 a0_2, .int .i64 a0_3, .int .i64 a0_4, .int .i64 a0_5, .slice A0_6 l0_6.length c0_6] 38 (0, 0)) (by (with_reducible repeat (first | refine blk_drewN ?_ _ | refine blk_drew ?_ | refine blk_alloc ?_ _)); exact BK221.out)) : gb221 ≠ gb224)); have NB224_221 := Aside0.mk ((by rw [hg]; exact Nat.ne_of_gt (blk_lt (g := gb221) (o := .cells #[.slice A0_0 l0_0.length c0_0, .int .i64 a0_1, .int .i64 a0_2, .int .i64 a0_3, .int .i64 a0_4, .int .i64 a0_5, .slice A0_6 l0_6.length c0_6] 38 (0, 0)) (by (with_reducible repeat (first | refine blk_drewN ?_ _ | refine blk_drew ?_ | refine blk_alloc ?_ _)); exact BK221.out)) : gb224 ≠ gb221)); replace BK221 := Aside0.mk (blk_below (g := gb221) (o := .cells #[.slice A0_0 l0_0.length c0_0, .int .i64 a0_1, .int .i64 a0_2, .int .i64 a0_3, .int .i64 a0_4, .int .i64 a0_5, .slice A0_6 l0_6.length c0_6] 38 (0, 0)) (by (with_reducible repeat (first | refine blk_drewN ?_ _ | refine blk_drew ?_ | refine blk_alloc ?_ _)); exact BK221.out) hb); replace HB := zhs HB hb; clear hb hbox hg; have hnb14 := NB224_221.out; have hnc14 := NB221_224.out; have hcz15_0 := zc0 BK224 0 rfl; have hcz15_1 := zc0 BK224 1 rfl; have hfz15_0 := blk_frozen BK224.out 0; have hfz15_1 := blk_frozen BK224.out 1; have hcz16_0 := zc0 BK221 0 rfl; have hcz16_1 := zc0 BK221 1 rfl; have hcz16_2 := zc0 BK221 2 rfl; have hcz16_3 := zc0 BK221 3 rfl; have hcz16_4 := zc0 BK221 4 rfl; have hcz16_5 := zc0 BK221 5 rfl; have hcz16_6 := zc0 BK221 6 rfl; have hfz16_0 := blk_frozen BK221.out 0; have hfz16_1 := blk_frozen BK221.out 1; have hfz16_2 := blk_frozen BK221.out 2; have hfz16_3 := blk_frozen BK221.out 3; have hfz16_4 := blk_frozen BK221.out 4; have hfz16_5 := blk_frozen BK221.out 5; have hfz16_6 := blk_frozen BK221.out 6) | (go_at_call 110; (with_reducible refine (spec_l8Fits.calls _ _ l0_0 a0_1 a0_2 a0_3 a0_4 a0_5 _ _ l0_6 x7_1 ((rd_T95 l1 (rd l2 x8_1)).f0) ((rd_T95 l1 (rd l2 x8_1)).f1) true _ ?side1 ?side2 ?side3 ?side4 A10.out).mono ?_); (case side1 => exact Kd.C_below HR0_0.out (by repeat (first | exact zh0 HB | refine below_set ?_ GE221.out | refine below_set ?_ GE224.out))); (case side2 => exact HC0_0.out); (case side3 => exact Kd.C_below HR0_6.out (by repeat (first | exact zh0 HB | refine below_set ?_ GE221.out | refine below_set ?_ GE224.out))); (case side4 => exact HC0_6.out); rintro e w17 ⟨rfl, hb⟩; replace BK221 := Aside0.mk (blk_below (g := gb221) (o := .cells #[.slice A0_0 l0_0.length c0_0, .int .i64 a0_1, .int .i64 a0_2, .int .i64 a0_3, .int .i64 a0_4, .int .i64 a0_5, .slice A0_6 l0_6.length c0_6] 38 (0, 0)) (by (with_reducible repeat (first | refine blk_drewN ?_ _ | refine blk_drew ?_ | refine blk_alloc ?_ _)); refine blk_far ?_ NB221_224.out _; refine blk_far ?_ NB221_224.out _; (with_reducible repeat (first | refine blk_drewN ?_ _ | refine blk_drew ?_ | refine blk_alloc ?_ _)); exact BK221.out) hb); replace BK224 := Aside0.mk (blk_below (g := gb224) (o := .cells #[.int .i64 ((rd_T95 l1 (rd l2 x8_1)).f0), .int .i64 ((rd_T95 l1 (rd l2 x8_1)).f1)] 95 (0, 0)) (by (with_reducible repeat (first | refine blk_drewN ?_ _ | refine blk_drew ?_ | refine blk_alloc ?_ _)); refine blk_put (cs := #[.int .i64 ((rd_T95 l1 (rd l2 x8_1)).f0), .int .i64 0]) ?_ 1 _ rfl; refine blk_put (cs := #[.int .i64 0, .int .i64 0]) ?_ 0 _ rfl; (with_reducible repeat (first | refine blk_drewN ?_ _ | refine blk_drew ?_ | refine blk_alloc ?_ _)); exact BK224.out) hb); replace HB := Aside0.mk (below_step (by repeat (first | exact zh0 HB | refine below_set ?_ GE221.out | refine below_set ?_ GE224.out)) hb); (try clear hb); have hcz18_0 := zc0 BK224 0 rfl; have hcz18_1 := zc0 BK224 1 rfl; have hfz18_0 := blk_frozen BK224.out 0; have hfz18_1 := blk_frozen BK224.out 1) | (go_at_call 111; (with_reducible refine (spec_l8First.calls x7_1 ((rd_T95 l1 (rd l2 x8_1)).f1) t226 _ A12.out).mono ?_); rintro e w' ⟨rfl, ⟨nd, rfl⟩⟩; (try first | exact ⟨rfl, _, World.drewN_drewN _ _ _⟩ | exact ⟨rfl, _, Eq.trans (World.drewN_drewN _ _ _) (congrArg (World.drewN _) (Nat.add_assoc _ _ _))⟩))))
        go_roundg k1
        case measure => have := HK1.out; omega
        case rel => exact ⟨(wrap64 (t226 + ((rd_T95 l1 (rd l2 x8_1)).f0))), (wrap64 (x8_1 + 1)), zfs, zfs, H', ⟨by have := HK1.out; omega⟩, ⟨zk0 BK221⟩, ⟨by repeat (first | exact zh0 HB | refine below_set ?_ GE221.out | refine below_set ?_ GE224.out)⟩⟩
       ·replace c11 := Bool.eq_false_iff.mpr c11
        subst c11
        have H1 : (some (-1)) = some r := by rw [if_neg (show ¬ (false = true) by decide)] at H; exact H
        clear H
        have H := H1
        clear H1
        obtain rfl := Option.some.inj H
        have p222 : 0 ≤ (x8_1 : Int) := zod
        have q222 : x8_1 < (l2.length : Int) := zod
        obtain ⟨ad222, e222, hx222_0⟩ := Kd.at_int HR2.out x8_1 p222 q222
        cases e222
        replace hx222_0 := (HB.out.cell (World.block_lt_of_cell? w _ hx222_0)).trans hx222_0
        replace p222 := eq_true p222
        replace q222 := eq_true q222
        have p223 : 0 ≤ ((rd l2 x8_1) : Int) := zod
        have q223 : (rd l2 x8_1) < (l1.length : Int) := zod
        obtain ⟨ad223, e223, hx223_0, hx223_1⟩ := at_T95 HR1.out (rd l2 x8_1) p223 q223
        cases e223
        replace hx223_0 := (HB.out.cell (World.block_lt_of_cell? w _ hx223_0)).trans hx223_0
        replace hx223_1 := (HB.out.cell (World.block_lt_of_cell? w _ hx223_1)).trans hx223_1
        replace p223 := eq_true p223
        replace q223 := eq_true q223
        go_wp2_with (first | ((with_reducible refine gate_dst (N := 9) rfl ?_); refine box_event ?hg (N := 9) ?hd (cs := #[.int .i64 0, .int .i64 0]) (t := 95) ?hr ?_; (case hd => rfl); (case hg => rfl); (case hr => first | (go_simp; done) | (go_simp; rfl)); intro gb224 hg w19 hbox hb; have BK224 := Aside0.mk (hbox); have GW224 := zge HB hg; have GE224 := zge HB hg; have NB221_224 := Aside0.mk ((by rw [hg]; exact Nat.ne_of_lt (blk_lt (g := gb221) (o := .cells #[.slice A0_0 l0_0.length c0_0, .int .i64 a0_1, .int .i64 a0_2, .int .i64 a0_3, .int .i64 a0_4, .int .i64 a0_5, .slice A0_6 l0_6.length c0_6] 38 (0, 0)) (by (with_reducible repeat (first | refine blk_drewN ?_ _ | refine blk_drew ?_ | refine blk_alloc ?_ _)); exact BK221.out)) : gb221 ≠ gb224)); have NB224_221 := Aside0.mk ((by rw [hg]; exact Nat.ne_of_gt (blk_lt (g := gb221) (o := .cells #[.slice A0_0 l0_0.length c0_0, .int .i64 a0_1, .int .i64 a0_2, .int .i64 a0_3, .int .i64 a0_4, .int .i64 a0_5, .slice A0_6 l0_6.length c0_6] 38 (0, 0)) (by (with_reducible repeat (first | refine blk_drewN ?_ _ | refine blk_drew ?_ | refine blk_alloc ?_ _)); exact BK221.out)) : gb224 ≠ gb221)); replace BK221 := Aside0.mk (blk_below (g := gb221) (o := .cells #[.slice A0_0 l0_0.length c0_0, .int .i64 a0_1, .int .i64 a0_2, .int .i64 a0_3, .int .i64 a0_4, .int .i64 a0_5, .slice A0_6 l0_6.length c0_6] 38 (0, 0)) (by (with_reducible repeat (first | refine blk_drewN ?_ _ | refine blk_drew ?_ | refine blk_alloc ?_ _)); exact BK221.out) hb); replace HB := zhs HB hb; clear hb hbox hg; have hnb20 := NB224_221.out; have hnc20 := NB221_224.out; have hcz21_0 := zc0 BK224 0 rfl; have hcz21_1 := zc0 BK224 1 rfl; have hfz21_0 := blk_frozen BK224.out 0; have hfz21_1 := blk_frozen BK224.out 1; have hcz22_0 := zc0 BK221 0 rfl; have hcz22_1 := zc0 BK221 1 rfl; have hcz22_2 := zc0 BK221 2 rfl; have hcz22_3 := zc0 BK221 3 rfl; have hcz22_4 := zc0 BK221 4 rfl; have hcz22_5 := zc0 BK221 5 rfl; have hcz22_6 := zc0 BK221 6 rfl; have hfz22_0 := blk_frozen BK221.out 0; have hfz22_1 := blk_frozen BK221.out 1; have hfz22_2 := blk_frozen BK221.out 2; have hfz22_3 := blk_frozen BK221.out 3; have hfz22_4 := blk_frozen BK221.out 4; have hfz22_5 := blk_frozen BK221.out 5; have hfz22_6 := blk_frozen BK221.out 6) | (go_at_call 110; (with_reducible refine (spec_l8Fits.calls _ _ l0_0 a0_1 a0_2 a0_3 a0_4 a0_5 _ _ l0_6 x7_1 ((rd_T95 l1 (rd l2 x8_1)).f0) ((rd_T95 l1 (rd l2 x8_1)).f1) false _ ?side1 ?side2 ?side3 ?side4 A10.out).mono ?_); (case side1 => exact Kd.C_below HR0_0.out (by repeat (first | exact zh0 HB | refine below_set ?_ GE221.out | refine below_set ?_ GE224.out))); (case side2 => exact HC0_0.out); (case side3 => exact Kd.C_below HR0_6.out (by repeat (first | exact zh0 HB | refine below_set ?_ GE221.out | refine below_set ?_ GE224.out))); (case side4 => exact HC0_6.out); rintro e w23 ⟨rfl, hb⟩; replace BK221 := Aside0.mk (blk_below (g := gb221) (o := .cells #[.slice A0_0 l0_0.length c0_0, .int .i64 a0_1, .int .i64 a0_2, .int .i64 a0_3, .int .i64 a0_4, .int .i64 a0_5, .slice A0_6 l0_6.length c0_6] 38 (0, 0)) (by (with_reducible repeat (first | refine blk_drewN ?_ _ | refine blk_drew ?_ | refine blk_alloc ?_ _)); refine blk_far ?_ NB221_224.out _; refine blk_far ?_ NB221_224.out _; (with_reducible repeat (first | refine blk_drewN ?_ _ | refine blk_drew ?_ | refine blk_alloc ?_ _)); exact BK221.out) hb); replace BK224 := Aside0.mk (blk_below (g := gb224) (o := .cells #[.int .i64 ((rd_T95 l1 (rd l2 x8_1)).f0), .int .i64 ((rd_T95 l1 (rd l2 x8_1)).f1)] 95 (0, 0)) (by (with_reducible repeat (first | refine blk_drewN ?_ _ | refine blk_drew ?_ | refine blk_alloc ?_ _)); refine blk_put (cs := #[.int .i64 ((rd_T95 l1 (rd l2 x8_1)).f0), .int .i64 0]) ?_ 1 _ rfl; refine blk_put (cs := #[.int .i64 0, .int .i64 0]) ?_ 0 _ rfl; (with_reducible repeat (first | refine blk_drewN ?_ _ | refine blk_drew ?_ | refine blk_alloc ?_ _)); exact BK224.out) hb); replace HB := Aside0.mk (below_step (by repeat (first | exact zh0 HB | refine below_set ?_ GE221.out | refine below_set ?_ GE224.out)) hb); (try clear hb)))
        repeat (go_quiet (first | ((with_reducible refine gate_dst (N := 9) rfl ?_); refine box_event ?hg (N := 9) ?hd (cs := #[.int .i64 0, .int .i64 0]) (t := 95) ?hr ?_; (case hd => rfl); (case hg => rfl); (case hr => first | (go_simp; done) | (go_simp; rfl)); intro gb224 hg w19 hbox hb; have BK224 := Aside0.mk (hbox); have GW224 := zge HB hg; have GE224 := zge HB hg; have NB221_224 := Aside0.mk ((by rw [hg]; exact Nat.ne_of_lt (blk_lt (g := gb221) (o := .cells #[.slice A0_0 l0_0.length c0_0, .int .i64 a0_1, .int .i64 a0_2, .int .i64 a0_3, .int .i64 a0_4, .int .i64 a0_5, .slice A0_6 l0_6.length c0_6] 38 (0, 0)) (by (with_reducible repeat (first | refine blk_drewN ?_ _ | refine blk_drew ?_ | refine blk_alloc ?_ _)); exact BK221.out)) : gb221 ≠ gb224)); have NB224_221 := Aside0.mk ((by rw [hg]; exact Nat.ne_of_gt (blk_lt (g := gb221) (o := .cells #[.slice A0_0 l0_0.length c0_0, .int .i64 a0_1, .int .i64 a0_2, .int .i64 a0_3, .int .i64 a0_4, .int .i64 a0_5, .slice A0_6 l0_6.length c0_6] 38 (0, 0)) (by (with_reducible repeat (first | refine blk_drewN ?_ _ | refine blk_drew ?_ | refine blk_alloc ?_ _)); exact BK221.out)) : gb224 ≠ gb221)); replace BK221 := Aside0.mk (blk_below (g := gb221) (o := .cells #[.slice A0_0 l0_0.length c0_0, .int .i64 a0_1, .int .i64 a0_2, .int .i64 a0_3, .int .i64 a0_4, .int .i64 a0_5, .slice A0_6 l0_6.length c0_6] 38 (0, 0)) (by (with_reducible repeat (first | refine blk_drewN ?_ _ | refine blk_drew ?_ | refine blk_alloc ?_ _)); exact BK221.out) hb); replace HB := zhs HB hb; clear hb hbox hg; have hnb20 := NB224_221.out; have hnc20 := NB221_224.out; have hcz21_0 := zc0 BK224 0 rfl; have hcz21_1 := zc0 BK224 1 rfl; have hfz21_0 := blk_frozen BK224.out 0; have hfz21_1 := blk_frozen BK224.out 1; have hcz22_0 := zc0 BK221 0 rfl; have hcz22_1 := zc0 BK221 1 rfl; have hcz22_2 := zc0 BK221 2 rfl; have hcz22_3 := zc0 BK221 3 rfl; have hcz22_4 := zc0 BK221 4 rfl; have hcz22_5 := zc0 BK221 5 rfl; have hcz22_6 := zc0 BK221 6 rfl; have hfz22_0 := blk_frozen BK221.out 0; have hfz22_1 := blk_frozen BK221.out 1; have hfz22_2 := blk_frozen BK221.out 2; have hfz22_3 := blk_frozen BK221.out 3; have hfz22_4 := blk_frozen BK221.out 4; have hfz22_5 := blk_frozen BK221.out 5; have hfz22_6 := blk_frozen BK221.out 6) | (go_at_call 110; (with_reducible refine (spec_l8Fits.calls _ _ l0_0 a0_1 a0_2 a0_3 a0_4 a0_5 _ _ l0_6 x7_1 ((rd_T95 l1 (rd l2 x8_1)).f0) ((rd_T95 l1 (rd l2 x8_1)).f1) false _ ?side1 ?side2 ?side3 ?side4 A10.out).mono ?_); (case side1 => exact Kd.C_below HR0_0.out (by repeat (first | exact zh0 HB | refine below_set ?_ GE221.out | refine below_set ?_ GE224.out))); (case side2 => exact HC0_0.out); (case side3 => exact Kd.C_below HR0_6.out (by repeat (first | exact zh0 HB | refine below_set ?_ GE221.out | refine below_set ?_ GE224.out))); (case side4 => exact HC0_6.out); rintro e w23 ⟨rfl, hb⟩; replace BK221 := Aside0.mk (blk_below (g := gb221) (o := .cells #[.slice A0_0 l0_0.length c0_0, .int .i64 a0_1, .int .i64 a0_2, .int .i64 a0_3, .int .i64 a0_4, .int .i64 a0_5, .slice A0_6 l0_6.length c0_6] 38 (0, 0)) (by (with_reducible repeat (first | refine blk_drewN ?_ _ | refine blk_drew ?_ | refine blk_alloc ?_ _)); refine blk_far ?_ NB221_224.out _; refine blk_far ?_ NB221_224.out _; (with_reducible repeat (first | refine blk_drewN ?_ _ | refine blk_drew ?_ | refine blk_alloc ?_ _)); exact BK221.out) hb); replace BK224 := Aside0.mk (blk_below (g := gb224) (o := .cells #[.int .i64 ((rd_T95 l1 (rd l2 x8_1)).f0), .int .i64 ((rd_T95 l1 (rd l2 x8_1)).f1)] 95 (0, 0)) (by (with_reducible repeat (first | refine blk_drewN ?_ _ | refine blk_drew ?_ | refine blk_alloc ?_ _)); refine blk_put (cs := #[.int .i64 ((rd_T95 l1 (rd l2 x8_1)).f0), .int .i64 0]) ?_ 1 _ rfl; refine blk_put (cs := #[.int .i64 0, .int .i64 0]) ?_ 0 _ rfl; (with_reducible repeat (first | refine blk_drewN ?_ _ | refine blk_drew ?_ | refine blk_alloc ?_ _)); exact BK224.out) hb); replace HB := Aside0.mk (below_step (by repeat (first | exact zh0 HB | refine below_set ?_ GE221.out | refine below_set ?_ GE224.out)) hb); (try clear hb))); try go_wp2_with (first | ((with_reducible refine gate_dst (N := 9) rfl ?_); refine box_event ?hg (N := 9) ?hd (cs := #[.int .i64 0, .int .i64 0]) (t := 95) ?hr ?_; (case hd => rfl); (case hg => rfl); (case hr => first | (go_simp; done) | (go_simp; rfl)); intro gb224 hg w19 hbox hb; have BK224 := Aside0.mk (hbox); have GW224 := zge HB hg; have GE224 := zge HB hg; have NB221_224 := Aside0.mk ((by rw [hg]; exact Nat.ne_of_lt (blk_lt (g := gb221) (o := .cells #[.slice A0_0 l0_0.length c0_0, .int .i64 a0_1, .int .i64 a0_2, .int .i64 a0_3, .int .i64 a0_4, .int .i64 a0_5, .slice A0_6 l0_6.length c0_6] 38 (0, 0)) (by (with_reducible repeat (first | refine blk_drewN ?_ _ | refine blk_drew ?_ | refine blk_alloc ?_ _)); exact BK221.out)) : gb221 ≠ gb224)); have NB224_221 := Aside0.mk ((by rw [hg]; exact Nat.ne_of_gt (blk_lt (g := gb221) (o := .cells #[.slice A0_0 l0_0.length c0_0, .int .i64 a0_1, .int .i64 a0_2, .int .i64 a0_3, .int .i64 a0_4, .int .i64 a0_5, .slice A0_6 l0_6.length c0_6] 38 (0, 0)) (by (with_reducible repeat (first | refine blk_drewN ?_ _ | refine blk_drew ?_ | refine blk_alloc ?_ _)); exact BK221.out)) : gb224 ≠ gb221)); replace BK221 := Aside0.mk (blk_below (g := gb221) (o := .cells #[.slice A0_0 l0_0.length c0_0, .int .i64 a0_1, .int .i64 a0_2, .int .i64 a0_3, .int .i64 a0_4, .int .i64 a0_5, .slice A0_6 l0_6.length c0_6] 38 (0, 0)) (by (with_reducible repeat (first | refine blk_drewN ?_ _ | refine blk_drew ?_ | refine blk_alloc ?_ _)); exact BK221.out) hb); replace HB := zhs HB hb; clear hb hbox hg; have hnb20 := NB224_221.out; have hnc20 := NB221_224.out; have hcz21_0 := zc0 BK224 0 rfl; have hcz21_1 := zc0 BK224 1 rfl; have hfz21_0 := blk_frozen BK224.out 0; have hfz21_1 := blk_frozen BK224.out 1; have hcz22_0 := zc0 BK221 0 rfl; have hcz22_1 := zc0 BK221 1 rfl; have hcz22_2 := zc0 BK221 2 rfl; have hcz22_3 := zc0 BK221 3 rfl; have hcz22_4 := zc0 BK221 4 rfl; have hcz22_5 := zc0 BK221 5 rfl; have hcz22_6 := zc0 BK221 6 rfl; have hfz22_0 := blk_frozen BK221.out 0; have hfz22_1 := blk_frozen BK221.out 1; have hfz22_2 := blk_frozen BK221.out 2; have hfz22_3 := blk_frozen BK221.out 3; have hfz22_4 := blk_frozen BK221.out 4; have hfz22_5 := blk_frozen BK221.out 5; have hfz22_6 := blk_frozen BK221.out 6) | (go_at_call 110; (with_reducible refine (spec_l8Fits.calls _ _ l0_0 a0_1 a0_2 a0_3 a0_4 a0_5 _ _ l0_6 x7_1 ((rd_T95 l1 (rd l2 x8_1)).f0) ((rd_T95 l1 (rd l2 x8_1)).f1) false _ ?side1 ?side2 ?side3 ?side4 A10.out).mono ?_); (case side1 => exact Kd.C_below HR0_0.out (by repeat (first | exact zh0 HB | refine below_set ?_ GE221.out | refine below_set ?_ GE224.out))); (case side2 => exact HC0_0.out); (case side3 => exact Kd.C_below HR0_6.out (by repeat (first | exact zh0 HB | refine below_set ?_ GE221.out | refine below_set ?_ GE224.out))); (case side4 => exact HC0_6.out); rintro e w23 ⟨rfl, hb⟩; replace BK221 := Aside0.mk (blk_below (g := gb221) (o := .cells #[.slice A0_0 l0_0.length c0_0, .int .i64 a0_1, .int .i64 a0_2, .int .i64 a0_3, .int .i64 a0_4, .int .i64 a0_5, .slice A0_6 l0_6.length c0_6] 38 (0, 0)) (by (with_reducible repeat (first | refine blk_drewN ?_ _ | refine blk_drew ?_ | refine blk_alloc ?_ _)); refine blk_far ?_ NB221_224.out _; refine blk_far ?_ NB221_224.out _; (with_reducible repeat (first | refine blk_drewN ?_ _ | refine blk_drew ?_ | refine blk_alloc ?_ _)); exact BK221.out) hb); replace BK224 := Aside0.mk (blk_below (g := gb224) (o := .cells #[.int .i64 ((rd_T95 l1 (rd l2 x8_1)).f0), .int .i64 ((rd_T95 l1 (rd l2 x8_1)).f1)] 95 (0, 0)) (by (with_reducible repeat (first | refine blk_drewN ?_ _ | refine blk_drew ?_ | refine blk_alloc ?_ _)); refine blk_put (cs := #[.int .i64 ((rd_T95 l1 (rd l2 x8_1)).f0), .int .i64 0]) ?_ 1 _ rfl; refine blk_put (cs := #[.int .i64 0, .int .i64 0]) ?_ 0 _ rfl; (with_reducible repeat (first | refine blk_drewN ?_ _ | refine blk_drew ?_ | refine blk_alloc ?_ _)); exact BK224.out) hb); replace HB := Aside0.mk (below_step (by repeat (first | exact zh0 HB | refine below_set ?_ GE221.out | refine below_set ?_ GE224.out)) hb); (try clear hb))))
        go_ret
        exact ⟨zfr, by repeat (first | exact zh0 HB | refine below_set ?_ GE221.out | refine below_set ?_ GE224.out)⟩
      ·rw [if_neg c9] at H
       exact absurd H (by simp)
     ·rw [if_neg c8] at H
      exact absurd H (by simp)
    ·rw [if_neg c7] at H
     exact absurd H (by simp)
   ·rw [if_neg c6] at H
    have c6b0 : decide (x8_1 < (l2.length : Int)) = false := decide_eq_false c6
    clear c6
    obtain rfl := Option.some.inj H
    go_wp2
    repeat (go_quiet (fail); try go_wp2)
    go_ret
    exact ⟨zfr, by repeat (first | exact zh0 HB | refine below_set ?_ GE221.out)⟩

end Go.Proofs.Ytkifenbcepicjab.PFnExactBestOrder
