/- What is proved here: each Go function that is named below answers, and leaves memory, as the theorem of its name says; no condition beyond those that each theorem states. Laid by this session's own program (wip/driver.py) over the kit's print. -/
import Derived.Test.YtldkbeccpheckabPFnExactSharedPlacesx0
import Derived.Test.YtldkbeccpheckabPFnExactSharedPlacesx2
namespace Go.Proofs.Ytldkbeccpheckab.PFnExactSharedPlaces
open Go.RowKit Go.Proofs.YtldkbeccpheckabW.PrintWords Go.Proofs.YtldkbeccpheckabW.PrintLast Go.Proofs.YtldkbeccpheckabW.PrintMore
attribute [local go_sem] max2_int min2_int max_two min_two max_three min_three max_four min_four   -- for this text's walks alone
set_option linter.unusedVariables false
set_option linter.unusedSimpArgs false

open Go.Proofs.Ytldkbeccpheckab.Cp
/-! ### spec_SharedPlaces: function 29 -/
mutual
def spec_SharedPlaces.j0 : Nat → Bool → List (List Int) → List (S61) → List (S61) → Option (Int × Bool)
 | 0, _, _, _, _ => none
 | k + 1, x20, x187000, x188000, x189000 => if x20 = true then (some (0, false)) else (spec_SharedPlaces.l0 k 0 0 x187000 x188000 x189000)
def spec_SharedPlaces.l0 : Nat → Int → Int → List (List Int) → List (S61) → List (S61) → Option (Int × Bool)
 | 0, _, _, _, _, _ => none
 | k + 1, x8, x9, x187000, x188000, x189000 => if x9 < (x187000.length : Int) then (spec_SharedPlaces.l1 k x8 x9 0 x187000 x188000 x189000) else (some (x8, true))
def spec_SharedPlaces.l1 : Nat → Int → Int → Int → List (List Int) → List (S61) → List (S61) → Option (Int × Bool)
 | 0, _, _, _, _, _, _ => none
 | k + 1, x8, x9, x10, x187000, x188000, x189000 => if 0 ≤ x9 then (if x9 < (x187000.length : Int) then (if x10 < ((rd_L1 x187000 x9).length : Int) then ((spec_l3Noticed.f k x188000 x9 x10).bind fun t192 => (if (t192.length : Int) > 0 then ((spec_l3Noticed.f k x189000 x9 x10).bind fun t195 => (if (t195.length : Int) > 0 then (spec_SharedPlaces.l1 k (wrap64 (x8 + 1)) x9 (wrap64 (x10 + 1)) x187000 x188000 x189000) else (spec_SharedPlaces.l1 k x8 x9 (wrap64 (x10 + 1)) x187000 x188000 x189000))) else (spec_SharedPlaces.l1 k x8 x9 (wrap64 (x10 + 1)) x187000 x188000 x189000))) else (spec_SharedPlaces.l0 k x8 (wrap64 (x9 + 1)) x187000 x188000 x189000)) else (none)) else (none)
end
def spec_SharedPlaces.f (k : Nat) (l0_0 : List (List Int)) (l1_0 : List (S61)) (l2_0 : List (S61)) : Option (Int × Bool) := (spec_l7Rope.f k l0_0 l1_0).bind fun t189 => (if t189 = true then ((spec_l7Rope.f k l0_0 l2_0).bind fun t190 => (spec_SharedPlaces.j0 k (!t190) l0_0 l1_0 l2_0)) else (spec_SharedPlaces.j0 k true l0_0 l1_0 l2_0))
theorem spec_SharedPlaces.mono_l : ∀ k, (∀ y0 y1 y2 y3, LeO (spec_SharedPlaces.j0 k y0 y1 y2 y3) (spec_SharedPlaces.j0 (k + 1) y0 y1 y2 y3)) ∧ (∀ y0 y1 y2 y3 y4, LeO (spec_SharedPlaces.l0 k y0 y1 y2 y3 y4) (spec_SharedPlaces.l0 (k + 1) y0 y1 y2 y3 y4)) ∧ (∀ y0 y1 y2 y3 y4 y5, LeO (spec_SharedPlaces.l1 k y0 y1 y2 y3 y4 y5) (spec_SharedPlaces.l1 (k + 1) y0 y1 y2 y3 y4 y5))
 | 0 => ⟨fun _ _ _ _ r h => by simp [spec_SharedPlaces.j0] at h, fun _ _ _ _ _ r h => by simp [spec_SharedPlaces.l0] at h, fun _ _ _ _ _ _ r h => by simp [spec_SharedPlaces.l1] at h⟩
 | k + 1 => by
  obtain ⟨ih0, ih1, ih2⟩ := spec_SharedPlaces.mono_l k
  refine ⟨?_, ?_, ?_⟩
  ·intro y0 y1 y2 y3
   unfold spec_SharedPlaces.j0
   repeat' first
   | (with_reducible exact ih0 _ _ _ _)
   | (with_reducible exact ih1 _ _ _ _ _)
   | (with_reducible exact ih2 _ _ _ _ _ _)
   | (with_reducible exact spec_l3Noticed.mono _ _ _ _)
   | (with_reducible exact spec_l7Rope.mono _ _ _)
   | (with_reducible exact LeO.refl _)
   | (with_reducible exact LeO.none _)
   | (with_reducible refine LeO.ite ?_ ?_)
   | (with_reducible refine LeO.bind ?_ (fun _ => ?_))
   | exact ih0 _ _ _ _
   | exact ih1 _ _ _ _ _
   | exact ih2 _ _ _ _ _ _
   | exact spec_l3Noticed.mono _ _ _ _
   | exact spec_l7Rope.mono _ _ _
   | exact LeO.none _
   | refine LeO.ite ?_ ?_
   | refine LeO.bind ?_ (fun _ => ?_)
  ·intro y0 y1 y2 y3 y4
   unfold spec_SharedPlaces.l0
   repeat' first
   | (with_reducible exact ih0 _ _ _ _)
   | (with_reducible exact ih1 _ _ _ _ _)
   | (with_reducible exact ih2 _ _ _ _ _ _)
   | (with_reducible exact spec_l3Noticed.mono _ _ _ _)
   | (with_reducible exact spec_l7Rope.mono _ _ _)
   | (with_reducible exact LeO.refl _)
   | (with_reducible exact LeO.none _)
   | (with_reducible refine LeO.ite ?_ ?_)
   | (with_reducible refine LeO.bind ?_ (fun _ => ?_))
   | exact ih0 _ _ _ _
   | exact ih1 _ _ _ _ _
   | exact ih2 _ _ _ _ _ _
   | exact spec_l3Noticed.mono _ _ _ _
   | exact spec_l7Rope.mono _ _ _
   | exact LeO.none _
   | refine LeO.ite ?_ ?_
   | refine LeO.bind ?_ (fun _ => ?_)
  ·intro y0 y1 y2 y3 y4 y5
   unfold spec_SharedPlaces.l1
   repeat' first
   | (with_reducible exact ih0 _ _ _ _)
   | (with_reducible exact ih1 _ _ _ _ _)
   | (with_reducible exact ih2 _ _ _ _ _ _)
   | (with_reducible exact spec_l3Noticed.mono _ _ _ _)
   | (with_reducible exact spec_l7Rope.mono _ _ _)
   | (with_reducible exact LeO.refl _)
   | (with_reducible exact LeO.none _)
   | (with_reducible refine LeO.ite ?_ ?_)
   | (with_reducible refine LeO.bind ?_ (fun _ => ?_))
   | exact ih0 _ _ _ _
   | exact ih1 _ _ _ _ _
   | exact ih2 _ _ _ _ _ _
   | exact spec_l3Noticed.mono _ _ _ _
   | exact spec_l7Rope.mono _ _ _
   | exact LeO.none _
   | refine LeO.ite ?_ ?_
   | refine LeO.bind ?_ (fun _ => ?_)
theorem spec_SharedPlaces.mono : ∀ a0 a1 a2 k, LeO (spec_SharedPlaces.f k a0 a1 a2) (spec_SharedPlaces.f (k + 1) a0 a1 a2) := by
 intro a0 a1 a2 k
 obtain ⟨ih0, ih1, ih2⟩ := spec_SharedPlaces.mono_l k
 unfold spec_SharedPlaces.f
 repeat' first
   | (with_reducible exact ih0 _ _ _ _)
   | (with_reducible exact ih1 _ _ _ _ _)
   | (with_reducible exact ih2 _ _ _ _ _ _)
   | (with_reducible exact spec_l3Noticed.mono _ _ _ _)
   | (with_reducible exact spec_l7Rope.mono _ _ _)
   | (with_reducible exact LeO.refl _)
   | (with_reducible exact LeO.none _)
   | (with_reducible refine LeO.ite ?_ ?_)
   | (with_reducible refine LeO.bind ?_ (fun _ => ?_))
   | exact ih0 _ _ _ _
   | exact ih1 _ _ _ _ _
   | exact ih2 _ _ _ _ _ _
   | exact spec_l3Noticed.mono _ _ _ _
   | exact spec_l7Rope.mono _ _ _
   | exact LeO.none _
   | refine LeO.ite ?_ ?_
   | refine LeO.bind ?_ (fun _ => ?_)
set_option maxHeartbeats 8000000 in
set_option maxRecDepth 100000 in
theorem spec_SharedPlaces.calls (k : Nat) (A0_0 : Option Addr) (c0_0 : Nat) (l0_0 : List (List Int)) (A1_0 : Option Addr) (c1_0 : Nat) (l1_0 : List (S61)) (A2_0 : Option Addr) (c2_0 : Nat) (l2_0 : List (S61)) (r1 : Int) (r2 : Bool) (w : World) (hr0_0 : Kd.C (Kd.slice 5 (Kd.int .u8)) w A0_0 l0_0.length l0_0) (hc0_0 : l0_0.length ≤ c0_0) (hr1_0 : Kd.C k61 w A1_0 l1_0.length l1_0) (hc1_0 : l1_0.length ≤ c1_0) (hr2_0 : Kd.C k61 w A2_0 l2_0.length l2_0) (hc2_0 : l2_0.length ≤ c2_0) (h : spec_SharedPlaces.f k l0_0 l1_0 l2_0 = some (r1, r2)) :
  Calls Try.prog 29 #[.agg #[.slice A0_0 l0_0.length c0_0], .agg #[.slice A1_0 l1_0.length c1_0], .agg #[.slice A2_0 l2_0.length c2_0]] w fun e w' => e = .returned (.tuple #[.int .i64 r1, .bool r2]) ∧ Below w.heap.size w w' := by
 have hu35 := Try.underlying35
 have hu32 := Try.underlying32
 have HR0_0 := Aside0.mk hr0_0
 have HC0_0 := Aside0.mk hc0_0
 clear hr0_0 hc0_0
 have HR1_0 := Aside0.mk hr1_0
 have HC1_0 := Aside0.mk hc1_0
 clear hr1_0 hc1_0
 have HR2_0 := Aside0.mk hr2_0
 have HC2_0 := Aside0.mk hc2_0
 clear hr2_0 hc2_0
 have HB := Aside0.mk (Below.refl w.heap.size w)
 have H : ((spec_l7Rope.f k l0_0 l1_0).bind fun t189 => (if t189 = true then ((spec_l7Rope.f k l0_0 l2_0).bind fun t190 => (spec_SharedPlaces.j0 k (!t190) l0_0 l1_0 l2_0)) else (spec_SharedPlaces.j0 k true l0_0 l1_0 l2_0))) = some (r1, r2) := h
 clear h
 have HC4 := Aside0.mk H
 clear H
 go_enter Try.func29, Try.ntmps29
 go_upto_region 1 with (first | ((with_reducible refine gate_dst (N := 3) rfl ?_); (try (refine gate_guard (by rfl) ?_; dsimp only)); refine box_event ?hg (N := 3) ?hd (cs := #[.slice A0_0 l0_0.length c0_0]) (t := 35) ?hr ?_; (case hd => rfl); (case hg => rfl); (case hr => first | (go_simp; done) | (go_simp; rfl)); intro gb186 hg w5 hbox hb; have BK186 := Aside0.mk (hbox); have GW186 := zge HB hg; have GE186 := zge HB hg; replace HB := zhs HB hb; clear hb hbox hg) | ((with_reducible refine gate_dst (N := 4) rfl ?_); (try (refine gate_guard (by rfl) ?_; dsimp only)); refine box_event ?hg (N := 4) ?hd (cs := #[.slice A1_0 l1_0.length c1_0]) (t := 32) ?hr ?_; (case hd => rfl); (case hg => rfl); (case hr => first | (go_simp; done) | (go_simp; rfl)); intro gb187 hg w6 hbox hb; have BK187 := Aside0.mk (hbox); have GW187 := zge HB hg; have GE187 := zge HB hg; have NB186_187 := znl BK186 hg; have NB187_186 := znr BK186 hg; replace BK186 := zb0 BK186 hb; replace HB := zhs HB hb; clear hb hbox hg) | ((with_reducible refine gate_dst (N := 5) rfl ?_); (try (refine gate_guard (by rfl) ?_; dsimp only)); refine box_event ?hg (N := 5) ?hd (cs := #[.slice A2_0 l2_0.length c2_0]) (t := 32) ?hr ?_; (case hd => rfl); (case hg => rfl); (case hr => first | (go_simp; done) | (go_simp; rfl)); intro gb188 hg w7 hbox hb; have BK188 := Aside0.mk (hbox); have GW188 := zge HB hg; have GE188 := zge HB hg; have NB186_188 := znl BK186 hg; have NB188_186 := znr BK186 hg; have NB187_188 := znl BK187 hg; have NB188_187 := znr BK187 hg; replace BK186 := zb0 BK186 hb; replace BK187 := zb0 BK187 hb; replace HB := zhs HB hb; clear hb hbox hg))
 (try simp only [Act.put, zp1, zp2, zp3])
 go_cut [20] (fun v20 wc => ∃ (kq : Nat) (x20_3 : Bool), v20 = .bool x20_3 ∧ Aside0 (spec_SharedPlaces.j0 kq x20_3 l0_0 l1_0 l2_0 = some (r1, r2)) ∧ Aside0 (kq ≤ k) ∧ Aside0 (wc.heap[gb186]? = some (.cells #[(.slice A0_0 l0_0.length c0_0)] 35 (0, 0))) ∧ Aside0 (wc.heap[gb187]? = some (.cells #[(.slice A1_0 l1_0.length c1_0)] 32 (0, 0))) ∧ Aside0 (wc.heap[gb188]? = some (.cells #[(.slice A2_0 l2_0.length c2_0)] 32 (0, 0))) ∧ Aside0 (Below w.heap.size w wc))
 case first =>
  have H := HC4.out
  clear HC4
  replace H := Option.bind_eq_some_iff.mp H
  obtain ⟨t189, A80, H⟩ := H
  replace H : (if t189 = true then ((spec_l7Rope.f k l0_0 l2_0).bind fun t190 => (spec_SharedPlaces.j0 k (!t190) l0_0 l1_0 l2_0)) else (spec_SharedPlaces.j0 k true l0_0 l1_0 l2_0)) = some (r1, r2) := H
  have A8 := Aside0.mk A80
  clear A80
  by_cases c9 : t189 = true
  ·subst c9
   have H1 : ((spec_l7Rope.f k l0_0 l2_0).bind fun t190 => (spec_SharedPlaces.j0 k (!t190) l0_0 l1_0 l2_0)) = some (r1, r2) := by rw [if_pos rfl] at H; exact H
   clear H
   have H := H1
   clear H1
   replace H := Option.bind_eq_some_iff.mp H
   obtain ⟨t190, A100, H⟩ := H
   replace H : (spec_SharedPlaces.j0 k (!t190) l0_0 l1_0 l2_0) = some (r1, r2) := H
   have A10 := Aside0.mk A100
   clear A100
   have H' := Aside0.mk H
   clear H
   have hnb11 := NB186_187.out
   have hnc11 := NB187_186.out
   have hnb12 := NB186_188.out
   have hnc12 := NB188_186.out
   have hcz13_0 := zc0 BK186 0 rfl
   have hfz13_0 := blk_frozen BK186.out 0
   have hnb14 := NB187_188.out
   have hnc14 := NB188_187.out
   have hcz15_0 := zc0 BK187 0 rfl
   have hfz15_0 := blk_frozen BK187.out 0
   go_wp2_with (first | ((with_reducible refine gate_callee (f := 89) rfl ?_); refine goesL_ (some 13) rfl rfl Try.func89 (by kernel_rfl) rfl #[.agg #[.slice A0_0 l0_0.length c0_0], .agg #[.slice A1_0 l1_0.length c1_0]] rfl (by (try simp only [zq1, zq2, zq3]); first | done | rfl | (simp only [List.length_drop, List.length_take]; rfl)) ?_; (with_reducible refine (spec_l7Rope.calls k _ _ l0_0 _ _ l1_0 true _ ?side1 ?side2 ?side3 ?side4 A8.out).mono ?_); (case side1 => exact Kd.C_below HR0_0.out (zh0 HB)); (case side2 => exact HC0_0.out); (case side3 => exact Kd.C_below HR1_0.out (zh0 HB)); (case side4 => exact HC1_0.out); rintro e w16 ⟨rfl, hb⟩; refine ⟨_, rfl, ?_⟩; replace BK186 := zb0 BK186 hb; replace BK187 := zb0 BK187 hb; replace BK188 := zb0 BK188 hb; replace HB := zhs HB hb; (try clear hb); have hcz17_0 := zc0 BK186 0 rfl; have hfz17_0 := blk_frozen BK186.out 0; have hcz18_0 := zc0 BK188 0 rfl; have hfz18_0 := blk_frozen BK188.out 0) | (go_at_call 89; (with_reducible refine (spec_l7Rope.calls k _ _ l0_0 _ _ l2_0 t190 _ ?side1 ?side2 ?side3 ?side4 A10.out).mono ?_); (case side1 => exact Kd.C_below HR0_0.out (zh0 HB)); (case side2 => exact HC0_0.out); (case side3 => exact Kd.C_below HR2_0.out (zh0 HB)); (case side4 => exact HC2_0.out); rintro e w19 ⟨rfl, hb⟩; replace BK186 := zb0 BK186 hb; replace BK187 := zb0 BK187 hb; replace BK188 := zb0 BK188 hb; replace HB := zhs HB hb; (try clear hb)))
   go_meet
   case rel => exact ⟨_, (!t190), (by first | rfl | (simp; done) | (simp [*]; done)), H', ⟨by first | omega | exact Nat.le_refl _⟩, ⟨zk0 BK186⟩, ⟨zk0 BK187⟩, ⟨zk0 BK188⟩, ⟨by repeat (first | exact zh0 HB | refine below_set ?_ GE186.out | refine below_set ?_ GE187.out | refine below_set ?_ GE188.out)⟩⟩
  ·replace c9 := Bool.eq_false_iff.mpr c9
   subst c9
   have H1 : (spec_SharedPlaces.j0 k true l0_0 l1_0 l2_0) = some (r1, r2) := by rw [if_neg (show ¬ (false = true) by decide)] at H; exact H
   clear H
   have H := H1
   clear H1
   have H' := Aside0.mk H
   clear H
   have hnb20 := NB186_187.out
   have hnc20 := NB187_186.out
   have hnb21 := NB186_188.out
   have hnc21 := NB188_186.out
   have hcz22_0 := zc0 BK186 0 rfl
   have hfz22_0 := blk_frozen BK186.out 0
   have hnb23 := NB187_188.out
   have hnc23 := NB188_187.out
   have hcz24_0 := zc0 BK187 0 rfl
   have hfz24_0 := blk_frozen BK187.out 0
   go_wp2_with (first | ((with_reducible refine gate_callee (f := 89) rfl ?_); refine goesL_ (some 13) rfl rfl Try.func89 (by kernel_rfl) rfl #[.agg #[.slice A0_0 l0_0.length c0_0], .agg #[.slice A1_0 l1_0.length c1_0]] rfl (by (try simp only [zq1, zq2, zq3]); first | done | rfl | (simp only [List.length_drop, List.length_take]; rfl)) ?_; (with_reducible refine (spec_l7Rope.calls k _ _ l0_0 _ _ l1_0 false _ ?side1 ?side2 ?side3 ?side4 A8.out).mono ?_); (case side1 => exact Kd.C_below HR0_0.out (zh0 HB)); (case side2 => exact HC0_0.out); (case side3 => exact Kd.C_below HR1_0.out (zh0 HB)); (case side4 => exact HC1_0.out); rintro e w25 ⟨rfl, hb⟩; refine ⟨_, rfl, ?_⟩; replace BK186 := zb0 BK186 hb; replace BK187 := zb0 BK187 hb; replace BK188 := zb0 BK188 hb; replace HB := zhs HB hb; (try clear hb)))
   go_meet
   case rel => exact ⟨_, (true), (by first | rfl | (simp; done) | (simp [*]; done)), H', ⟨by first | omega | exact Nat.le_refl _⟩, ⟨zk0 BK186⟩, ⟨zk0 BK187⟩, ⟨zk0 BK188⟩, ⟨by repeat (first | exact zh0 HB | refine below_set ?_ GE186.out | refine below_set ?_ GE187.out | refine below_set ?_ GE188.out)⟩⟩
 case rest =>
  clear HC4
  try clear c1
  try clear c2
  try clear p2
  try clear c8
  try clear c9
  try clear c11
  try clear c12
  try clear c14
  try clear c20
  try clear c21
  try clear c23
  try clear hcz13_0
  try clear hcz15_0
  try clear hcz17_0
  try clear hcz18_0
  try clear hcz22_0
  try clear hcz24_0
  try clear hfz13_0
  try clear hfz15_0
  try clear hfz17_0
  try clear hfz18_0
  try clear hfz22_0
  try clear hfz24_0
  obtain ⟨kq, x20_3, rfl, HA, HJ3, BK186, BK187, BK188, HB⟩ := hcut
  cases kq with
  | zero => exact absurd HA.out (by simp [spec_SharedPlaces.j0])
  | succ kj3 =>
   have H := HA.out
   clear HA
   simp only [spec_SharedPlaces.j0] at H
   by_cases c26 : x20_3 = true
   ·subst c26
    have H1 : (some (0, false)) = some (r1, r2) := by rw [if_pos rfl] at H; exact H
    clear H
    have H := H1
    clear H1
    simp only [Option.some.injEq, Prod.mk.injEq] at H
    obtain ⟨rfl, rfl⟩ := H
    go_wp2
    go_ret2
    exact ⟨by first | rfl | (simp <;> rfl) | (simp [*] <;> rfl), by repeat (first | exact zh0 HB | refine below_set ?_ GE186.out | refine below_set ?_ GE187.out | refine below_set ?_ GE188.out)⟩
   ·replace c26 := Bool.eq_false_iff.mpr c26
    subst c26
    have H1 : (spec_SharedPlaces.l0 kj3 0 0 l0_0 l1_0 l2_0) = some (r1, r2) := by rw [if_neg (show ¬ (false = true) by decide)] at H; exact H
    clear H
    have H := H1
    clear H1
    have H' := Aside0.mk H
    clear H
    go_wp2
    go_loopg [8, 9] kj3 (fun kq v8 v9 w' => ∃ (x8_2 : Int) (x9_2 : Int), v8 = .int .i64 x8_2 ∧ v9 = .int .i64 x9_2 ∧ Aside0 (spec_SharedPlaces.l0 kq x8_2 x9_2 l0_0 l1_0 l2_0 = some (r1, r2)) ∧ Aside0 (kq ≤ kj3) ∧ Aside0 (w'.heap[gb186]? = some (.cells #[(.slice A0_0 l0_0.length c0_0)] 35 (0, 0))) ∧ Aside0 (w'.heap[gb187]? = some (.cells #[(.slice A1_0 l1_0.length c1_0)] 32 (0, 0))) ∧ Aside0 (w'.heap[gb188]? = some (.cells #[(.slice A2_0 l2_0.length c2_0)] 32 (0, 0))) ∧ Aside0 (Below w.heap.size w w'))
    case atStart => exact ⟨(0), (0), (by first | rfl | (simp; done) | (simp [*]; done)), (by first | rfl | (simp; done) | (simp [*]; done)), H', ⟨Nat.le_refl _⟩, ⟨zk0 BK186⟩, ⟨zk0 BK187⟩, ⟨zk0 BK188⟩, ⟨by repeat (first | exact zh0 HB | refine below_set ?_ GE186.out | refine below_set ?_ GE187.out | refine below_set ?_ GE188.out)⟩⟩
    case round =>
     clear H'
     try clear c1
     try clear c2
     try clear p2
     try clear c8
     try clear c9
     try clear c11
     try clear c12
     try clear c14
     try clear c20
     try clear c21
     try clear c23
     try clear c26
     try clear hcz13_0
     try clear hcz15_0
     try clear hcz17_0
     try clear hcz18_0
     try clear hcz22_0
     try clear hcz24_0
     try clear hfz13_0
     try clear hfz15_0
     try clear hfz17_0
     try clear hfz18_0
     try clear hfz22_0
     try clear hfz24_0
     try clear p2
     obtain ⟨x8_2, x9_2, rfl, rfl, HA, HK2, BK186, BK187, BK188, HB⟩ := hrel
     cases gk with
     | zero => exact absurd HA.out (by simp [spec_SharedPlaces.l0])
     | succ k2 =>
      have H := HA.out
      clear HA
      simp only [spec_SharedPlaces.l0] at H
      by_cases c27 : x9_2 < (l0_0.length : Int)
      ·rw [if_pos c27] at H
       have c27b0 : decide (x9_2 < (l0_0.length : Int)) = true := decide_eq_true c27
       clear c27
       have H' := Aside0.mk H
       clear H
       have hnb28 := NB186_187.out
       have hnc28 := NB187_186.out
       have hnb29 := NB186_188.out
       have hnc29 := NB188_186.out
       have hcz30_0 := zc0 BK186 0 rfl
       have hfz30_0 := blk_frozen BK186.out 0
       go_wp2
       go_loopg [8, 10] k2 (fun kq v8 v10 w' => ∃ (x8_3 : Int) (x10_3 : Int), v8 = .int .i64 x8_3 ∧ v10 = .int .i64 x10_3 ∧ Aside0 (spec_SharedPlaces.l1 kq x8_3 x9_2 x10_3 l0_0 l1_0 l2_0 = some (r1, r2)) ∧ Aside0 (kq ≤ k2) ∧ Aside0 (w'.heap[gb186]? = some (.cells #[(.slice A0_0 l0_0.length c0_0)] 35 (0, 0))) ∧ Aside0 (w'.heap[gb187]? = some (.cells #[(.slice A1_0 l1_0.length c1_0)] 32 (0, 0))) ∧ Aside0 (w'.heap[gb188]? = some (.cells #[(.slice A2_0 l2_0.length c2_0)] 32 (0, 0))) ∧ Aside0 (Below w.heap.size w w'))
       case atStart => exact ⟨(x8_2), (0), (by first | rfl | (simp; done) | (simp [*]; done)), (by first | rfl | (simp; done) | (simp [*]; done)), H', ⟨Nat.le_refl _⟩, ⟨zk0 BK186⟩, ⟨zk0 BK187⟩, ⟨zk0 BK188⟩, ⟨by repeat (first | exact zh0 HB | refine below_set ?_ GE186.out | refine below_set ?_ GE187.out | refine below_set ?_ GE188.out)⟩⟩
       case round =>
        clear H'
        try clear c1
        try clear c2
        try clear p2
        try clear c8
        try clear c9
        try clear c11
        try clear c12
        try clear c14
        try clear c20
        try clear c21
        try clear c23
        try clear c26
        try clear c27
        try clear c27b0
        try clear c28
        try clear c29
        try clear hcz13_0
        try clear hcz15_0
        try clear hcz17_0
        try clear hcz18_0
        try clear hcz22_0
        try clear hcz24_0
        try clear hcz30_0
        try clear hfz13_0
        try clear hfz15_0
        try clear hfz17_0
        try clear hfz18_0
        try clear hfz22_0
        try clear hfz24_0
        try clear hfz30_0
        try clear p2
        obtain ⟨x8_3, x10_3, rfl, rfl, HA, HK3, BK186, BK187, BK188, HB⟩ := hrel
        cases gk with
        | zero => exact absurd HA.out (by simp [spec_SharedPlaces.l1])
        | succ k3 =>
         have H := HA.out
         clear HA
         simp only [spec_SharedPlaces.l1] at H
         by_cases c31 : 0 ≤ x9_2
         ·rw [if_pos c31] at H
          have c31b0 : decide (0 ≤ x9_2) = true := decide_eq_true c31
          clear c31
          by_cases c32 : x9_2 < (l0_0.length : Int)
          ·rw [if_pos c32] at H
           have c32b0 : decide (x9_2 < (l0_0.length : Int)) = true := decide_eq_true c32
           clear c32
           by_cases c33 : x10_3 < ((rd_L1 l0_0 x9_2).length : Int)
           ·rw [if_pos c33] at H
            have c33b0 : decide (x10_3 < ((rd_L1 l0_0 x9_2).length : Int)) = true := decide_eq_true c33
            clear c33
            replace H := Option.bind_eq_some_iff.mp H
            obtain ⟨t192, A340, H⟩ := H
            replace H : (if (t192.length : Int) > 0 then ((spec_l3Noticed.f k3 l2_0 x9_2 x10_3).bind fun t195 => (if (t195.length : Int) > 0 then (spec_SharedPlaces.l1 k3 (wrap64 (x8_3 + 1)) x9_2 (wrap64 (x10_3 + 1)) l0_0 l1_0 l2_0) else (spec_SharedPlaces.l1 k3 x8_3 x9_2 (wrap64 (x10_3 + 1)) l0_0 l1_0 l2_0))) else (spec_SharedPlaces.l1 k3 x8_3 x9_2 (wrap64 (x10_3 + 1)) l0_0 l1_0 l2_0)) = some (r1, r2) := H
            have A34 := Aside0.mk A340
            clear A340
            by_cases c35 : (t192.length : Int) > 0
            ·rw [if_pos c35] at H
             have c35b0 : decide (0 < (t192.length : Int)) = true := decide_eq_true c35
             have c35b1 : decide (0 < t192.length) = true := decide_eq_true (by omega)
             clear c35
             replace H := Option.bind_eq_some_iff.mp H
             obtain ⟨t195, A360, H⟩ := H
             replace H : (if (t195.length : Int) > 0 then (spec_SharedPlaces.l1 k3 (wrap64 (x8_3 + 1)) x9_2 (wrap64 (x10_3 + 1)) l0_0 l1_0 l2_0) else (spec_SharedPlaces.l1 k3 x8_3 x9_2 (wrap64 (x10_3 + 1)) l0_0 l1_0 l2_0)) = some (r1, r2) := H
             have A36 := Aside0.mk A360
             clear A360
             by_cases c37 : (t195.length : Int) > 0
             ·rw [if_pos c37] at H
              have c37b0 : decide (0 < (t195.length : Int)) = true := decide_eq_true c37
              have c37b1 : decide (0 < t195.length) = true := decide_eq_true (by omega)
              clear c37
              have H' := Aside0.mk H
              clear H
              have hnb38 := NB186_187.out
              have hnc38 := NB187_186.out
              have hnb39 := NB186_188.out
              have hnc39 := NB188_186.out
              have hcz40_0 := zc0 BK186 0 rfl
              have hfz40_0 := blk_frozen BK186.out 0
              have p191 : 0 ≤ (x9_2 : Int) := of_decide_eq_true (by first | (with_reducible assumption) | assumption)
              have q191 : x9_2 < (l0_0.length : Int) := of_decide_eq_true (by first | (with_reducible assumption) | assumption)
              obtain ⟨ad191, A191_0, c191_0, e191, hx191_0, hl191_0, hi191_0⟩ := at_L1 HR0_0.out x9_2 p191 q191
              cases e191
              replace hx191_0 := (HB.out.cell (World.block_lt_of_cell? w _ hx191_0)).trans hx191_0
              have HR191_0 := Aside0.mk hi191_0
              have HC191_0 := Aside0.mk hl191_0
              clear hi191_0 hl191_0
              replace p191 := eq_true p191
              replace q191 := eq_true q191
              have hnb41 := NB187_188.out
              have hnc41 := NB188_187.out
              have hcz42_0 := zc0 BK187 0 rfl
              have hfz42_0 := blk_frozen BK187.out 0
              go_wp2_with (first | ((with_reducible refine gate_callee (f := 106) rfl ?_); refine goesL_ (some 42) rfl rfl Try.func106 (by kernel_rfl) rfl #[.slice A1_0 l1_0.length c1_0, .int .i64 x9_2, .int .i64 x10_3] rfl (by (try simp only [zq1, zq2, zq3]); first | done | rfl | (simp only [List.length_drop, List.length_take]; rfl)) ?_; (with_reducible refine (spec_l3Noticed.calls k3 _ _ l1_0 x9_2 x10_3 t192 _ ?side1 ?side2 A34.out).mono ?_); (case side1 => exact Kd.C_below HR1_0.out (zh0 HB)); (case side2 => exact HC1_0.out); rintro e w43 ⟨v193, rfl, ho0, hb⟩; refine ⟨_, rfl, ?_⟩; have HO194 := Aside0.mk (Kd.R_lower ho0 (below_size (zh0 HB))); replace BK186 := zb0 BK186 hb; replace BK187 := zb0 BK187 hb; replace BK188 := zb0 BK188 hb; replace HB := zhs HB hb; (try clear hb); (try clear ho0); obtain ⟨Ao44, co44, eo44⟩ := Kd.R_slice HO194.out; subst eo44; have hcz45_0 := zc0 BK188 0 rfl; have hfz45_0 := blk_frozen BK188.out 0) | (go_at_call 106; (with_reducible refine (spec_l3Noticed.calls k3 _ _ l2_0 x9_2 x10_3 t195 _ ?side1 ?side2 A36.out).mono ?_); (case side1 => exact Kd.C_below HR2_0.out (zh0 HB)); (case side2 => exact HC2_0.out); rintro e w46 ⟨v196, rfl, ho0, hb⟩; have HO197 := Aside0.mk (Kd.R_lower (Kd.R_new' ho0 (Kd.R_lt (zr0 HO194))) (below_size (zh0 HB))); replace HO194 := Aside0.mk (Kd.R_elder' (zr0 HO194) (Kd.R_base ho0) hb); replace BK186 := zb0 BK186 hb; replace BK187 := zb0 BK187 hb; replace BK188 := zb0 BK188 hb; replace HB := zhs HB hb; (try clear hb); (try clear ho0); obtain ⟨Ao47, co47, eo47⟩ := Kd.R_slice HO197.out; subst eo47))
              go_roundg k3
              case measure => have := HJ3.out; have := HK2.out; have := HK3.out; omega
              case rel => exact ⟨(wrap64 (x8_3 + 1)), (wrap64 (x10_3 + 1)), (by first | rfl | (simp; done) | (simp [*]; done)), (by first | rfl | (simp; done) | (simp [*]; done)), H', ⟨by have := HJ3.out; have := HK2.out; have := HK3.out; omega⟩, ⟨zk0 BK186⟩, ⟨zk0 BK187⟩, ⟨zk0 BK188⟩, ⟨by repeat (first | exact zh0 HB | refine below_set ?_ GE186.out | refine below_set ?_ GE187.out | refine below_set ?_ GE188.out)⟩⟩
             ·rw [if_neg c37] at H
              have c37b0 : decide (0 < (t195.length : Int)) = false := decide_eq_false c37
              have c37b1 : decide (0 < t195.length) = false := decide_eq_false (by omega)
              clear c37
              have H' := Aside0.mk H
              clear H
              have hnb48 := NB186_187.out
              have hnc48 := NB187_186.out
              have hnb49 := NB186_188.out
              have hnc49 := NB188_186.out
              have hcz50_0 := zc0 BK186 0 rfl
              have hfz50_0 := blk_frozen BK186.out 0
              have p191 : 0 ≤ (x9_2 : Int) := of_decide_eq_true (by first | (with_reducible assumption) | assumption)
              have q191 : x9_2 < (l0_0.length : Int) := of_decide_eq_true (by first | (with_reducible assumption) | assumption)
              obtain ⟨ad191, A191_0, c191_0, e191, hx191_0, hl191_0, hi191_0⟩ := at_L1 HR0_0.out x9_2 p191 q191
              cases e191
              replace hx191_0 := (HB.out.cell (World.block_lt_of_cell? w _ hx191_0)).trans hx191_0
              have HR191_0 := Aside0.mk hi191_0
              have HC191_0 := Aside0.mk hl191_0
              clear hi191_0 hl191_0
              replace p191 := eq_true p191
              replace q191 := eq_true q191
              have hnb51 := NB187_188.out
              have hnc51 := NB188_187.out
              have hcz52_0 := zc0 BK187 0 rfl
              have hfz52_0 := blk_frozen BK187.out 0
              go_wp2_with (first | ((with_reducible refine gate_callee (f := 106) rfl ?_); refine goesL_ (some 42) rfl rfl Try.func106 (by kernel_rfl) rfl #[.slice A1_0 l1_0.length c1_0, .int .i64 x9_2, .int .i64 x10_3] rfl (by (try simp only [zq1, zq2, zq3]); first | done | rfl | (simp only [List.length_drop, List.length_take]; rfl)) ?_; (with_reducible refine (spec_l3Noticed.calls k3 _ _ l1_0 x9_2 x10_3 t192 _ ?side1 ?side2 A34.out).mono ?_); (case side1 => exact Kd.C_below HR1_0.out (zh0 HB)); (case side2 => exact HC1_0.out); rintro e w53 ⟨v193, rfl, ho0, hb⟩; refine ⟨_, rfl, ?_⟩; have HO194 := Aside0.mk (Kd.R_lower ho0 (below_size (zh0 HB))); replace BK186 := zb0 BK186 hb; replace BK187 := zb0 BK187 hb; replace BK188 := zb0 BK188 hb; replace HB := zhs HB hb; (try clear hb); (try clear ho0); obtain ⟨Ao54, co54, eo54⟩ := Kd.R_slice HO194.out; subst eo54; have hcz55_0 := zc0 BK188 0 rfl; have hfz55_0 := blk_frozen BK188.out 0) | (go_at_call 106; (with_reducible refine (spec_l3Noticed.calls k3 _ _ l2_0 x9_2 x10_3 t195 _ ?side1 ?side2 A36.out).mono ?_); (case side1 => exact Kd.C_below HR2_0.out (zh0 HB)); (case side2 => exact HC2_0.out); rintro e w56 ⟨v196, rfl, ho0, hb⟩; have HO197 := Aside0.mk (Kd.R_lower (Kd.R_new' ho0 (Kd.R_lt (zr0 HO194))) (below_size (zh0 HB))); replace HO194 := Aside0.mk (Kd.R_elder' (zr0 HO194) (Kd.R_base ho0) hb); replace BK186 := zb0 BK186 hb; replace BK187 := zb0 BK187 hb; replace BK188 := zb0 BK188 hb; replace HB := zhs HB hb; (try clear hb); (try clear ho0); obtain ⟨Ao57, co57, eo57⟩ := Kd.R_slice HO197.out; subst eo57))
              go_roundg k3
              case measure => have := HJ3.out; have := HK2.out; have := HK3.out; omega
              case rel => exact ⟨(x8_3), (wrap64 (x10_3 + 1)), (by first | rfl | (simp; done) | (simp [*]; done)), (by first | rfl | (simp; done) | (simp [*]; done)), H', ⟨by have := HJ3.out; have := HK2.out; have := HK3.out; omega⟩, ⟨zk0 BK186⟩, ⟨zk0 BK187⟩, ⟨zk0 BK188⟩, ⟨by repeat (first | exact zh0 HB | refine below_set ?_ GE186.out | refine below_set ?_ GE187.out | refine below_set ?_ GE188.out)⟩⟩
            ·rw [if_neg c35] at H
             have c35b0 : decide (0 < (t192.length : Int)) = false := decide_eq_false c35
             have c35b1 : decide (0 < t192.length) = false := decide_eq_false (by omega)
             clear c35
             have H' := Aside0.mk H
             clear H
             have hnb58 := NB186_187.out
             have hnc58 := NB187_186.out
             have hnb59 := NB186_188.out
             have hnc59 := NB188_186.out
             have hcz60_0 := zc0 BK186 0 rfl
             have hfz60_0 := blk_frozen BK186.out 0
             have p191 : 0 ≤ (x9_2 : Int) := of_decide_eq_true (by first | (with_reducible assumption) | assumption)
             have q191 : x9_2 < (l0_0.length : Int) := of_decide_eq_true (by first | (with_reducible assumption) | assumption)
             obtain ⟨ad191, A191_0, c191_0, e191, hx191_0, hl191_0, hi191_0⟩ := at_L1 HR0_0.out x9_2 p191 q191
             cases e191
             replace hx191_0 := (HB.out.cell (World.block_lt_of_cell? w _ hx191_0)).trans hx191_0
             have HR191_0 := Aside0.mk hi191_0
             have HC191_0 := Aside0.mk hl191_0
             clear hi191_0 hl191_0
             replace p191 := eq_true p191
             replace q191 := eq_true q191
             have hnb61 := NB187_188.out
             have hnc61 := NB188_187.out
             have hcz62_0 := zc0 BK187 0 rfl
             have hfz62_0 := blk_frozen BK187.out 0
             go_wp2_with (first | ((with_reducible refine gate_callee (f := 106) rfl ?_); refine goesL_ (some 42) rfl rfl Try.func106 (by kernel_rfl) rfl #[.slice A1_0 l1_0.length c1_0, .int .i64 x9_2, .int .i64 x10_3] rfl (by (try simp only [zq1, zq2, zq3]); first | done | rfl | (simp only [List.length_drop, List.length_take]; rfl)) ?_; (with_reducible refine (spec_l3Noticed.calls k3 _ _ l1_0 x9_2 x10_3 t192 _ ?side1 ?side2 A34.out).mono ?_); (case side1 => exact Kd.C_below HR1_0.out (zh0 HB)); (case side2 => exact HC1_0.out); rintro e w63 ⟨v193, rfl, ho0, hb⟩; refine ⟨_, rfl, ?_⟩; have HO194 := Aside0.mk (Kd.R_lower ho0 (below_size (zh0 HB))); replace BK186 := zb0 BK186 hb; replace BK187 := zb0 BK187 hb; replace BK188 := zb0 BK188 hb; replace HB := zhs HB hb; (try clear hb); (try clear ho0); obtain ⟨Ao64, co64, eo64⟩ := Kd.R_slice HO194.out; subst eo64))
             go_roundg k3
             case measure => have := HJ3.out; have := HK2.out; have := HK3.out; omega
             case rel => exact ⟨(x8_3), (wrap64 (x10_3 + 1)), (by first | rfl | (simp; done) | (simp [*]; done)), (by first | rfl | (simp; done) | (simp [*]; done)), H', ⟨by have := HJ3.out; have := HK2.out; have := HK3.out; omega⟩, ⟨zk0 BK186⟩, ⟨zk0 BK187⟩, ⟨zk0 BK188⟩, ⟨by repeat (first | exact zh0 HB | refine below_set ?_ GE186.out | refine below_set ?_ GE187.out | refine below_set ?_ GE188.out)⟩⟩
           ·rw [if_neg c33] at H
            have c33b0 : decide (x10_3 < ((rd_L1 l0_0 x9_2).length : Int)) = false := decide_eq_false c33
            clear c33
            have H' := Aside0.mk H
            clear H
            have hnb65 := NB186_187.out
            have hnc65 := NB187_186.out
            have hnb66 := NB186_188.out
            have hnc66 := NB188_186.out
            have hcz67_0 := zc0 BK186 0 rfl
            have hfz67_0 := blk_frozen BK186.out 0
            have p191 : 0 ≤ (x9_2 : Int) := of_decide_eq_true (by first | (with_reducible assumption) | assumption)
            have q191 : x9_2 < (l0_0.length : Int) := of_decide_eq_true (by first | (with_reducible assumption) | assumption)
            obtain ⟨ad191, A191_0, c191_0, e191, hx191_0, hl191_0, hi191_0⟩ := at_L1 HR0_0.out x9_2 p191 q191
            cases e191
            replace hx191_0 := (HB.out.cell (World.block_lt_of_cell? w _ hx191_0)).trans hx191_0
            have HR191_0 := Aside0.mk hi191_0
            have HC191_0 := Aside0.mk hl191_0
            clear hi191_0 hl191_0
            replace p191 := eq_true p191
            replace q191 := eq_true q191
            go_wp2
            go_roundg k3
            case measure => have := HJ3.out; have := HK2.out; have := HK3.out; omega
            case rel => exact ⟨(x8_3), (wrap64 (x9_2 + 1)), (by first | rfl | (simp; done) | (simp [*]; done)), (by first | rfl | (simp; done) | (simp [*]; done)), H', ⟨by have := HJ3.out; have := HK2.out; have := HK3.out; omega⟩, ⟨zk0 BK186⟩, ⟨zk0 BK187⟩, ⟨zk0 BK188⟩, ⟨by repeat (first | exact zh0 HB | refine below_set ?_ GE186.out | refine below_set ?_ GE187.out | refine below_set ?_ GE188.out)⟩⟩
          ·rw [if_neg c32] at H
           exact absurd H (by simp)
         ·rw [if_neg c31] at H
          exact absurd H (by simp)
      ·rw [if_neg c27] at H
       have c27b0 : decide (x9_2 < (l0_0.length : Int)) = false := decide_eq_false c27
       clear c27
       simp only [Option.some.injEq, Prod.mk.injEq] at H
       obtain ⟨rfl, rfl⟩ := H
       have hnb68 := NB186_187.out
       have hnc68 := NB187_186.out
       have hnb69 := NB186_188.out
       have hnc69 := NB188_186.out
       have hcz70_0 := zc0 BK186 0 rfl
       have hfz70_0 := blk_frozen BK186.out 0
       go_wp2
       go_ret2
       exact ⟨by first | rfl | (simp <;> rfl) | (simp [*] <;> rfl), by repeat (first | exact zh0 HB | refine below_set ?_ GE186.out | refine below_set ?_ GE187.out | refine below_set ?_ GE188.out)⟩

open Go.Proofs.Ytldkbeccpheckab.Cp
/-! ### impl_within: function 100 -/
def impl_within.f (a0 : Int) (a1 : Int) (a2 : Int) : Option (Bool) := if a0 ≥ a1 then (some (decide (a0 ≤ a2))) else (some false)
set_option maxHeartbeats 8000000 in
set_option maxRecDepth 100000 in
theorem impl_within.calls (a0 : Int) (a1 : Int) (a2 : Int) (r : Bool) (w : World) (h : impl_within.f a0 a1 a2 = some r) :
  Calls Try.prog 100 #[.int .i64 a0, .int .i64 a1, .int .i64 a2] w fun e w' => e = .returned (.bool r) ∧ Drawn0 w w' := by
 have H : (if a0 ≥ a1 then (some (decide (a0 ≤ a2))) else (some false)) = some r := h
 clear h
 by_cases c4 : a0 ≥ a1
 ·rw [if_pos c4] at H
  have c4b0 : decide (a1 ≤ a0) = true := decide_eq_true c4
  clear c4
  obtain rfl := Option.some.inj H
  go_enter Try.func100, Try.ntmps100
  go_wp2
  go_ret
  exact ⟨by first | rfl | (simp; done) | (simp [*]; done), by repeat (first | exact Drawn0.refl _ | apply Drawn0.step)⟩
 ·rw [if_neg c4] at H
  have c4b0 : decide (a1 ≤ a0) = false := decide_eq_false c4
  clear c4
  obtain rfl := Option.some.inj H
  go_enter Try.func100, Try.ntmps100
  go_wp2
  go_ret
  exact ⟨by first | rfl | (simp; done) | (simp [*]; done), by repeat (first | exact Drawn0.refl _ | apply Drawn0.step)⟩

open Go.Proofs.Ytldkbeccpheckab.Cp
/-! ### impl_IsMemory: function 175 -/
def impl_IsMemory.l0 : Nat → List (List Int) → Int → Int → List (List Int) → Option (Bool)
 | 0, _, _, _, _ => none
 | k + 1, x6, x7, x8, x199000 => if x8 < x7 then (if 0 ≤ x8 then (if x8 < (x6.length : Int) then ((impl_within.f ((rd_L1 x6 x8).length : Int) 1 64).bind fun t200 => (if t200 = true then (impl_IsMemory.l0 k x6 x7 (wrap64 (x8 + 1)) x199000) else (some false))) else (none)) else (none)) else (some (decide ((x199000.length : Int) ≤ 16)))
def impl_IsMemory.f (k : Nat) (l0_0 : List (List Int)) : Option (Bool) := impl_IsMemory.l0 k l0_0 (l0_0.length : Int) 0 l0_0
theorem impl_IsMemory.mono_l : ∀ k, (∀ y0 y1 y2 y3, LeO (impl_IsMemory.l0 k y0 y1 y2 y3) (impl_IsMemory.l0 (k + 1) y0 y1 y2 y3))
 | 0 => fun _ _ _ _ r h => by simp [impl_IsMemory.l0] at h
 | k + 1 => by
  have ih0 := impl_IsMemory.mono_l k
  ·intro y0 y1 y2 y3
   unfold impl_IsMemory.l0
   repeat' first
   | (with_reducible exact ih0 _ _ _ _)
   | (with_reducible exact LeO.refl _)
   | (with_reducible exact LeO.none _)
   | (with_reducible refine LeO.ite ?_ ?_)
   | (with_reducible refine LeO.bind ?_ (fun _ => ?_))
   | exact ih0 _ _ _ _
   | exact LeO.none _
   | refine LeO.ite ?_ ?_
   | refine LeO.bind ?_ (fun _ => ?_)
theorem impl_IsMemory.mono : ∀ a0 k, LeO (impl_IsMemory.f k a0) (impl_IsMemory.f (k + 1) a0) := by
 intro a0 k
 have ih0 := impl_IsMemory.mono_l k
 unfold impl_IsMemory.f
 repeat' first
   | (with_reducible exact ih0 _ _ _ _)
   | (with_reducible exact LeO.refl _)
   | (with_reducible exact LeO.none _)
   | (with_reducible refine LeO.ite ?_ ?_)
   | (with_reducible refine LeO.bind ?_ (fun _ => ?_))
   | exact ih0 _ _ _ _
   | exact LeO.none _
   | refine LeO.ite ?_ ?_
   | refine LeO.bind ?_ (fun _ => ?_)
set_option maxHeartbeats 8000000 in
set_option maxRecDepth 100000 in
theorem impl_IsMemory.calls (k : Nat) (A0_0 : Option Addr) (c0_0 : Nat) (l0_0 : List (List Int)) (r : Bool) (w : World) (hr0_0 : Kd.C (Kd.slice 5 (Kd.int .u8)) w A0_0 l0_0.length l0_0) (hc0_0 : l0_0.length ≤ c0_0) (h : impl_IsMemory.f k l0_0 = some r) :
  Calls Try.prog 175 #[.agg #[.slice A0_0 l0_0.length c0_0]] w fun e w' => e = .returned (.bool r) ∧ Below w.heap.size w w' := by
 have hu35 := Try.underlying35
 have HR0_0 := Aside0.mk hr0_0
 have HC0_0 := Aside0.mk hc0_0
 clear hr0_0 hc0_0
 have HB := Aside0.mk (Below.refl w.heap.size w)
 have H : (impl_IsMemory.l0 k l0_0 (l0_0.length : Int) 0 l0_0) = some r := h
 clear h
 have H' := Aside0.mk H
 clear H
 go_enter Try.func175, Try.ntmps175
 go_wp2_with (first | ((with_reducible refine gate_dst (N := 1) rfl ?_); refine box_event ?hg (N := 1) ?hd (cs := #[.slice A0_0 l0_0.length c0_0]) (t := 35) ?hr ?_; (case hd => rfl); (case hg => rfl); (case hr => first | (go_simp; done) | (go_simp; rfl)); intro gb198 hg w2 hbox hb; have BK198 := Aside0.mk (hbox); have GW198 := zge HB hg; have GE198 := zge HB hg; replace HB := zhs HB hb; clear hb hbox hg; have hcz3_0 := zc0 BK198 0 rfl; have hfz3_0 := blk_frozen BK198.out 0))
 go_loopg [8] k (fun kq v8 w' => ∃ (x8_1 : Int), v8 = .int .i64 x8_1 ∧ Aside0 (impl_IsMemory.l0 kq l0_0 (l0_0.length : Int) x8_1 l0_0 = some r) ∧ Aside0 (kq ≤ k) ∧ Aside0 (w'.heap[gb198]? = some (.cells #[(.slice A0_0 l0_0.length c0_0)] 35 (0, 0))) ∧ Aside0 (Below w.heap.size w w'))
 case atStart => exact ⟨(0), (by first | rfl | (simp; done) | (simp [*]; done)), H', ⟨Nat.le_refl _⟩, ⟨zk0 BK198⟩, ⟨by repeat (first | exact zh0 HB | refine below_set ?_ GE198.out)⟩⟩
 case round =>
  clear H'
  try clear c1
  try clear p2
  try clear hcz3_0
  try clear hfz3_0
  obtain ⟨x8_1, rfl, HA, HK1, BK198, HB⟩ := hrel
  cases gk with
  | zero => exact absurd HA.out (by simp [impl_IsMemory.l0])
  | succ k1 =>
   have H := HA.out
   clear HA
   simp only [impl_IsMemory.l0] at H
   by_cases c4 : x8_1 < (l0_0.length : Int)
   ·rw [if_pos c4] at H
    have c4b0 : decide (x8_1 < (l0_0.length : Int)) = true := decide_eq_true c4
    clear c4
    by_cases c5 : 0 ≤ x8_1
    ·rw [if_pos c5] at H
     have c5b0 : decide (0 ≤ x8_1) = true := decide_eq_true c5
     clear c5
     by_cases c6 : x8_1 < (l0_0.length : Int)
     ·rw [if_pos c6] at H
      have c6b0 : decide (x8_1 < (l0_0.length : Int)) = true := decide_eq_true c6
      clear c6
      replace H := Option.bind_eq_some_iff.mp H
      obtain ⟨t200, A70, H⟩ := H
      replace H : (if t200 = true then (impl_IsMemory.l0 k1 l0_0 (l0_0.length : Int) (wrap64 (x8_1 + 1)) l0_0) else (some false)) = some r := H
      have A7 := Aside0.mk A70
      clear A70
      by_cases c8 : t200 = true
      ·subst c8
       have H1 : (impl_IsMemory.l0 k1 l0_0 (l0_0.length : Int) (wrap64 (x8_1 + 1)) l0_0) = some r := by rw [if_pos rfl] at H; exact H
       clear H
       have H := H1
       clear H1
       have H' := Aside0.mk H
       clear H
       have p199 : 0 ≤ (x8_1 : Int) := of_decide_eq_true (by first | (with_reducible assumption) | assumption)
       have q199 : x8_1 < (l0_0.length : Int) := of_decide_eq_true (by first | (with_reducible assumption) | assumption)
       obtain ⟨ad199, A199_0, c199_0, e199, hx199_0, hl199_0, hi199_0⟩ := at_L1 HR0_0.out x8_1 p199 q199
       cases e199
       replace hx199_0 := (HB.out.cell (World.block_lt_of_cell? w _ hx199_0)).trans hx199_0
       have HR199_0 := Aside0.mk hi199_0
       have HC199_0 := Aside0.mk hl199_0
       clear hi199_0 hl199_0
       replace p199 := eq_true p199
       replace q199 := eq_true q199
       go_wp2_with (first | ((with_reducible refine gate_callee (f := 100) rfl ?_); refine goesL_ (some 14) rfl rfl Try.func100 (by kernel_rfl) rfl #[.int .i64 ((rd_L1 l0_0 x8_1).length : Int), .int .i64 1, .int .i64 64] rfl (by (try simp only [zq1, zq2, zq3]); first | done | rfl | (simp only [List.length_drop, List.length_take]; rfl)) ?_; (with_reducible refine (impl_within.calls ((rd_L1 l0_0 x8_1).length : Int) 1 64 true _ A7.out).mono ?_); rintro e w' ⟨rfl, ⟨nd, rfl⟩⟩; refine ⟨_, rfl, ?_⟩))
       go_roundg k1
       case measure => have := HK1.out; omega
       case rel => exact ⟨(wrap64 (x8_1 + 1)), (by first | rfl | (simp; done) | (simp [*]; done)), H', ⟨by have := HK1.out; omega⟩, ⟨zk0 BK198⟩, ⟨by repeat (first | exact zh0 HB | refine below_set ?_ GE198.out)⟩⟩
      ·replace c8 := Bool.eq_false_iff.mpr c8
       subst c8
       have H1 : (some false) = some r := by rw [if_neg (show ¬ (false = true) by decide)] at H; exact H
       clear H
       have H := H1
       clear H1
       obtain rfl := Option.some.inj H
       have p199 : 0 ≤ (x8_1 : Int) := of_decide_eq_true (by first | (with_reducible assumption) | assumption)
       have q199 : x8_1 < (l0_0.length : Int) := of_decide_eq_true (by first | (with_reducible assumption) | assumption)
       obtain ⟨ad199, A199_0, c199_0, e199, hx199_0, hl199_0, hi199_0⟩ := at_L1 HR0_0.out x8_1 p199 q199
       cases e199
       replace hx199_0 := (HB.out.cell (World.block_lt_of_cell? w _ hx199_0)).trans hx199_0
       have HR199_0 := Aside0.mk hi199_0
       have HC199_0 := Aside0.mk hl199_0
       clear hi199_0 hl199_0
       replace p199 := eq_true p199
       replace q199 := eq_true q199
       go_wp2_with (first | ((with_reducible refine gate_callee (f := 100) rfl ?_); refine goesL_ (some 14) rfl rfl Try.func100 (by kernel_rfl) rfl #[.int .i64 ((rd_L1 l0_0 x8_1).length : Int), .int .i64 1, .int .i64 64] rfl (by (try simp only [zq1, zq2, zq3]); first | done | rfl | (simp only [List.length_drop, List.length_take]; rfl)) ?_; (with_reducible refine (impl_within.calls ((rd_L1 l0_0 x8_1).length : Int) 1 64 false _ A7.out).mono ?_); rintro e w' ⟨rfl, ⟨nd, rfl⟩⟩; refine ⟨_, rfl, ?_⟩))
       go_ret
       exact ⟨by first | rfl | (simp <;> rfl) | (simp [*] <;> rfl), by repeat (first | exact zh0 HB | refine below_set ?_ GE198.out)⟩
     ·rw [if_neg c6] at H
      exact absurd H (by simp)
    ·rw [if_neg c5] at H
     exact absurd H (by simp)
   ·rw [if_neg c4] at H
    have c4b0 : decide (x8_1 < (l0_0.length : Int)) = false := decide_eq_false c4
    clear c4
    obtain rfl := Option.some.inj H
    have hcz9_0 := zc0 BK198 0 rfl
    have hfz9_0 := blk_frozen BK198.out 0
    go_wp2
    go_ret
    exact ⟨by first | rfl | (simp <;> rfl) | (simp [*] <;> rfl), by repeat (first | exact zh0 HB | refine below_set ?_ GE198.out)⟩

open Go.Proofs.Ytldkbeccpheckab.Cp
/-! ### impl_Memory_hasArray: function 196 -/
def impl_Memory_hasArray.f (l0_0 : List (List Int)) (a1 : Int) : Option (Bool) := (impl_within.f a1 0 (wrap64 ((l0_0.length : Int) - 1))).bind fun t202 => (some t202)
set_option maxHeartbeats 8000000 in
set_option maxRecDepth 100000 in
theorem impl_Memory_hasArray.calls (A0_0 : Option Addr) (c0_0 : Nat) (l0_0 : List (List Int)) (a1 : Int) (r : Bool) (w : World) (hr0_0 : Kd.C (Kd.slice 5 (Kd.int .u8)) w A0_0 l0_0.length l0_0) (hc0_0 : l0_0.length ≤ c0_0) (h : impl_Memory_hasArray.f l0_0 a1 = some r) :
  Calls Try.prog 196 #[.agg #[.slice A0_0 l0_0.length c0_0], .int .i64 a1] w fun e w' => e = .returned (.bool r) ∧ Below w.heap.size w w' := by
 have hu35 := Try.underlying35
 have HR0_0 := Aside0.mk hr0_0
 have HC0_0 := Aside0.mk hc0_0
 clear hr0_0 hc0_0
 have HB := Aside0.mk (Below.refl w.heap.size w)
 have H : ((impl_within.f a1 0 (wrap64 ((l0_0.length : Int) - 1))).bind fun t202 => (some t202)) = some r := h
 clear h
 replace H := Option.bind_eq_some_iff.mp H
 obtain ⟨t202, A30, H⟩ := H
 replace H : (some t202) = some r := H
 have A3 := Aside0.mk A30
 clear A30
 obtain rfl := Option.some.inj H
 go_enter Try.func196, Try.ntmps196
 go_wp2_with (first | ((with_reducible refine gate_dst (N := 2) rfl ?_); refine box_event ?hg (N := 2) ?hd (cs := #[.slice A0_0 l0_0.length c0_0]) (t := 35) ?hr ?_; (case hd => rfl); (case hg => rfl); (case hr => first | (go_simp; done) | (go_simp; rfl)); intro gb201 hg w4 hbox hb; have BK201 := Aside0.mk (hbox); have GW201 := zge HB hg; have GE201 := zge HB hg; replace HB := zhs HB hb; clear hb hbox hg; have hcz5_0 := zc0 BK201 0 rfl; have hfz5_0 := blk_frozen BK201.out 0) | ((with_reducible refine gate_callee (f := 100) rfl ?_); refine goesL_ (some 10) rfl rfl Try.func100 (by kernel_rfl) rfl #[.int .i64 a1, .int .i64 0, .int .i64 (wrap64 ((l0_0.length : Int) - 1))] rfl (by (try simp only [zq1, zq2, zq3]); first | done | rfl | (simp only [List.length_drop, List.length_take]; rfl)) ?_; (with_reducible refine (impl_within.calls a1 0 (wrap64 ((l0_0.length : Int) - 1)) t202 _ A3.out).mono ?_); rintro e w' ⟨rfl, ⟨nd, rfl⟩⟩; refine ⟨_, rfl, ?_⟩))
 go_ret
 exact ⟨by first | rfl | (simp <;> rfl) | (simp [*] <;> rfl), by repeat (first | exact zh0 HB | refine below_set ?_ GE201.out)⟩

end Go.Proofs.Ytldkbeccpheckab.PFnExactSharedPlaces
