/- What is proved here: each Go function that is named below answers, and leaves memory, as the theorem of its name says; no condition beyond those that each theorem states. Laid by this session's own program (wip/driver.py) over the kit's print. -/
import Derived.Test.YtkifenbcepicjabPFnExactBestOrderx0
import Derived.Test.YtkifenbcepicjabPFnExactBestOrderx1
import Derived.Test.YtkifenbcepicjabPFnExactBestOrderx2
import Derived.Test.YtkifenbcepicjabPFnExactBestOrderx4
import Derived.Test.YtkifenbcepicjabPFnExactBestOrderx7
namespace Go.Proofs.Ytkifenbcepicjab.PFnExactBestOrder
open Go.RowKit Go.Proofs.YtkifenbcepicjabW.PrintWords Go.Proofs.YtkifenbcepicjabW.PrintLast Go.Proofs.YtkifenbcepicjabW.PrintMore
attribute [local go_sem] max2_int min2_int max_two min_two max_three min_three max_four min_four   -- for this text's walks alone
set_option linter.unusedVariables false
set_option linter.unusedSimpArgs false

/-! ### laws_FnExactBestOrder: function 4 (by hand) -/
def laws_FnExactBestOrder.f (k : Nat) (l0_0 : List (List Int)) (a0_1 : Int) (a0_2 : Int) (a0_3 : Int) (a0_4 : Int) (a0_5 : Int) (l0_6 : List Int) (l1 : List (S97)) : Option Bool := (laws_szArena.f k l0_0 a0_1 a0_2 a0_3 a0_4 a0_5 l0_6 1048576).bind fun x1 => if x1 < 0 then some true else (laws_szAskedS.f l1 x1).bind fun x3 => if x3 < 0 then some true else (laws_toArena.f k l0_0 a0_1 a0_2 a0_3 a0_4 a0_5 l0_6).bind fun y_x5 => (laws_toAskedS.f k l1).bind fun x15 => (spec_BestOrder.f k (y_x5.1) (y_x5.2.1) (y_x5.2.2.1) (y_x5.2.2.2.1) (y_x5.2.2.2.2.1) (y_x5.2.2.2.2.2.1) (y_x5.2.2.2.2.2.2) x15).bind fun y_x18 => (impl_BestOrder.f k (y_x5.1) (y_x5.2.1) (y_x5.2.2.1) (y_x5.2.2.2.1) (y_x5.2.2.2.2.1) (y_x5.2.2.2.2.2.1) (y_x5.2.2.2.2.2.2) x15).bind fun y_x26 => (laws_eqIntS.f k (y_x26.1) (y_x18.1)).bind fun x30 => (laws_eqArena.f k (y_x5.1) (y_x5.2.1) (y_x5.2.2.1) (y_x5.2.2.2.1) (y_x5.2.2.2.2.1) (y_x5.2.2.2.2.2.1) (y_x5.2.2.2.2.2.2) (y_x5.1) (y_x5.2.1) (y_x5.2.2.1) (y_x5.2.2.2.1) (y_x5.2.2.2.2.1) (y_x5.2.2.2.2.2.1) (y_x5.2.2.2.2.2.2)).bind fun x34 => (laws_eqAskedS.f k x15 x15).bind fun x37 => (laws_markArena.f k (y_x5.1) (y_x5.2.1) (y_x5.2.2.1) (y_x5.2.2.2.1) (y_x5.2.2.2.2.1) (y_x5.2.2.2.2.2.1) (y_x5.2.2.2.2.2.2) 1).bind fun y_x39 => (laws_markAskedS.f k x15 (y_x39.1)).bind fun y_x42 => (laws_markIntS.f k (y_x26.1) 1).bind fun y_x45 => (laws_heldIntS.f k (y_x45.2) 1).bind fun x48 => if x30 = true ∧ x34 = true ∧ x37 = true ∧ y_x26.2 = y_x18.2 ∧ ¬ y_x42.1 < 0 ∧ ¬ x48 < 0 ∧ x48 = y_x45.1 then some true else none
theorem laws_FnExactBestOrder.mono : ∀ l0_0 a0_1 a0_2 a0_3 a0_4 a0_5 l0_6 l1 k, LeO (laws_FnExactBestOrder.f k l0_0 a0_1 a0_2 a0_3 a0_4 a0_5 l0_6 l1) (laws_FnExactBestOrder.f (k + 1) l0_0 a0_1 a0_2 a0_3 a0_4 a0_5 l0_6 l1) := by
  intro l0_0 a0_1 a0_2 a0_3 a0_4 a0_5 l0_6 l1 k
  unfold laws_FnExactBestOrder.f
  exact LeO.bind (by apply laws_szArena.mono) (fun _ => LeO.ite (LeO.refl _) (LeO.bind (LeO.refl _) (fun _ => LeO.ite (LeO.refl _) (LeO.bind (by apply laws_toArena.mono) (fun _ => LeO.bind (by apply laws_toAskedS.mono) (fun _ => LeO.bind (by apply spec_BestOrder.mono) (fun _ => LeO.bind (by apply impl_BestOrder.mono) (fun _ => LeO.bind (by apply laws_eqIntS.mono) (fun _ => LeO.bind (by apply laws_eqArena.mono) (fun _ => LeO.bind (by apply laws_eqAskedS.mono) (fun _ => LeO.bind (by apply laws_markArena.mono) (fun _ => LeO.bind (by apply laws_markAskedS.mono) (fun _ => LeO.bind (by apply laws_markIntS.mono) (fun _ => LeO.bind (by apply laws_heldIntS.mono) (fun _ => LeO.refl _)))))))))))))))
set_option maxHeartbeats 4000000 in
set_option maxRecDepth 100000 in
theorem laws_FnExactBestOrder.calls (k : Nat) (A0_0 : Option Addr) (c0_0 : Nat) (l0_0 : List (List Int)) (a0_1 : Int) (a0_2 : Int) (a0_3 : Int) (a0_4 : Int) (a0_5 : Int) (A0_6 : Option Addr) (c0_6 : Nat) (l0_6 : List Int) (A1 : Option Addr) (c1 : Nat) (l1 : List (S97)) (r : Bool) (w : World) (hr0_0 : Kd.C (Kd.slice 5 (Kd.int .u8)) w A0_0 l0_0.length l0_0) (hc0_0 : l0_0.length ≤ c0_0) (hr0_6 : Kd.C (Kd.int .i64) w A0_6 l0_6.length l0_6) (hc0_6 : l0_6.length ≤ c0_6) (hr1 : Kd.C k97 w A1 l1.length l1) (hc1 : l1.length ≤ c1) (h : laws_FnExactBestOrder.f k l0_0 a0_1 a0_2 a0_3 a0_4 a0_5 l0_6 l1 = some r) :
    Calls Try.prog 4 #[.agg #[.slice A0_0 l0_0.length c0_0, .int .i64 a0_1, .int .i64 a0_2, .int .i64 a0_3, .int .i64 a0_4, .int .i64 a0_5, .slice A0_6 l0_6.length c0_6], .slice A1 l1.length c1] w fun e w' => e = .returned (.bool r) ∧ Below w.heap.size w w' := by
  have HR0_0 := Lib.hid hr0_0
  have HC0_0 := Lib.hid hc0_0
  clear hr0_0 hc0_0
  have HR0_6 := Lib.hid hr0_6
  have HC0_6 := Lib.hid hc0_6
  clear hr0_6 hc0_6
  have HR1 := Lib.hid hr1
  have HC1 := Lib.hid hc1
  clear hr1 hc1
  obtain ⟨W0, hW⟩ : ∃ W, W = (w.alloc (.cells #[.slice A0_0 l0_0.length c0_0, .int .i64 a0_1, .int .i64 a0_2, .int .i64 a0_3, .int .i64 a0_4, .int .i64 a0_5, .slice A0_6 l0_6.length c0_6] 29)) := ⟨_, rfl⟩
  have HI : Hid (Lv.Inv w W0 [Lv.boxF (w.heap.size) #[.slice A0_0 l0_0.length c0_0, .int .i64 a0_1, .int .i64 a0_2, .int .i64 a0_3, .int .i64 a0_4, .int .i64 a0_5, .slice A0_6 l0_6.length c0_6] 29]) := by
    subst hW
    have := ((Lv.Inv.refl w).box #[.slice A0_0 l0_0.length c0_0, .int .i64 a0_1, .int .i64 a0_2, .int .i64 a0_3, .int .i64 a0_4, .int .i64 a0_5, .slice A0_6 l0_6.length c0_6] 29)
    exact Lib.hid (by simpa using this)
  unfold laws_FnExactBestOrder.f at h
  replace h := Option.bind_eq_some_iff.mp h
  obtain ⟨x1, A2, h⟩ := h
  try dsimp only at h
  have HA2 := Lib.hid A2
  clear A2
  have HH := Lib.hid h
  clear h
  go_enter Try.func4, Try.ntmps4
  go_upto_region 1 with (fail)
  rw [← hW]
  clear hW
  go_upto_region 2 with (fail)
  refine Fl.startL [.take 0, .take 1, .one 2, .take 3] (by decide) HI.out ?_
  refine Fl.take (some 17) (v := .agg #[.slice A0_0 l0_0.length c0_0, .int .i64 a0_1, .int .i64 a0_2, .int .i64 a0_3, .int .i64 a0_4, .int .i64 a0_5, .slice A0_6 l0_6.length c0_6]) rfl rfl (Fl.ld 0 rfl (by rfl) _ _ rfl rfl Try.underlying29 rfl (by kernel_rfl)) ?_
  simp only [Act.put, Fl.z1, Fl.z2, Fl.z3]
  refine Fl.take (some 18) (v := .int .i64 1048576) rfl rfl (Or.inl ⟨by rfl, fun _ _ => by rfl⟩) ?_
  simp only [Act.put, Fl.z1, Fl.z2, Fl.z3]
  refine Fl.call (some 19) Try.func6 (by kernel_rfl) rfl #[.agg #[.slice A0_0 l0_0.length c0_0, .int .i64 a0_1, .int .i64 a0_2, .int .i64 a0_3, .int .i64 a0_4, .int .i64 a0_5, .slice A0_6 l0_6.length c0_6], .int .i64 1048576] rfl rfl rfl (by rfl) rfl (fun E W hE hi => ?_)
  refine (laws_szArena.calls k _ _ l0_0 a0_1 a0_2 a0_3 a0_4 a0_5 _ _ l0_6 1048576 x1 W (Kd.C_below HR0_0.out hi.bel) HC0_0.out (Kd.C_below HR0_6.out hi.bel) HC0_6.out HA2.out).mono ?_
  rintro e W' ⟨rfl, hb⟩
  refine Fl.keep hi hb ?_
  clear hi hb hE
  simp only [Act.put, Fl.z1, Fl.z2, Fl.z3]
  refine Fl.take (some 5) (v := .int .i64 x1) rfl rfl (Or.inl ⟨by rfl, fun _ _ => by rfl⟩) ?_
  simp only [Act.put, Fl.z1, Fl.z2, Fl.z3]
  refine Fl.stop (fun W hi => ?_)
  replace HI := Lib.hid hi
  clear hi
  try clear hn_
  have h := HH.out
  clear HH
  by_cases hn : x1 < 0
  · rw [if_pos hn] at h
    obtain rfl := Option.some.inj h
    clear h
    have hn_ := decide_eq_true hn
    go_wp2
    go_ret
    exact ⟨rfl, HI.out.bel⟩
  rw [if_neg hn] at h
  have hn_ := decide_eq_false hn
  clear hn
  replace h := Option.bind_eq_some_iff.mp h
  obtain ⟨x3, A4, h⟩ := h
  try dsimp only at h
  have HA4 := Lib.hid A4
  clear A4
  have HH := Lib.hid h
  clear h
  go_upto_region 5 with (fail)
  refine Fl.startL [.take 0, .take 1, .one 2, .take 3] (by decide) HI.out ?_
  refine Fl.take (some 22) (v := .slice A1 l1.length c1) rfl rfl (Or.inl ⟨by rfl, fun _ _ => by rfl⟩) ?_
  simp only [Act.put, Fl.z1, Fl.z2, Fl.z3]
  refine Fl.take (some 23) (v := .int .i64 x1) rfl rfl (Or.inl ⟨by rfl, fun _ _ => by rfl⟩) ?_
  simp only [Act.put, Fl.z1, Fl.z2, Fl.z3]
  refine Fl.call (some 24) Try.func19 (by kernel_rfl) rfl #[.slice A1 l1.length c1, .int .i64 x1] rfl rfl rfl (by rfl) rfl (fun E W hE hi => ?_)
  refine (laws_szAskedS.calls _ _ l1 x1 x3 W (Kd.C_below HR1.out hi.bel) HC1.out HA4.out).mono ?_
  rintro e W' ⟨rfl, hb⟩
  refine Fl.keep hi hb.below ?_
  clear hi hb hE
  simp only [Act.put, Fl.z1, Fl.z2, Fl.z3]
  refine Fl.take (some 5) (v := .int .i64 x3) rfl rfl (Or.inl ⟨by rfl, fun _ _ => by rfl⟩) ?_
  simp only [Act.put, Fl.z1, Fl.z2, Fl.z3]
  refine Fl.stop (fun W hi => ?_)
  replace HI := Lib.hid hi
  clear hi
  try clear hn_
  have h := HH.out
  clear HH
  by_cases hn : x3 < 0
  · rw [if_pos hn] at h
    obtain rfl := Option.some.inj h
    clear h
    have hn_ := decide_eq_true hn
    go_wp2
    go_ret
    exact ⟨rfl, HI.out.bel⟩
  rw [if_neg hn] at h
  have hn_ := decide_eq_false hn
  clear hn
  replace h := Option.bind_eq_some_iff.mp h
  obtain ⟨⟨x5, x6, x7, x8, x9, x10, x11⟩, A12, h⟩ := h
  try dsimp only at h
  have HA12 := Lib.hid A12
  clear A12
  replace h := Option.bind_eq_some_iff.mp h
  obtain ⟨x15, A16, h⟩ := h
  try dsimp only at h
  have HA16 := Lib.hid A16
  clear A16
  replace h := Option.bind_eq_some_iff.mp h
  obtain ⟨⟨x18, x19⟩, A20, h⟩ := h
  try dsimp only at h
  have HA20 := Lib.hid A20
  clear A20
  replace h := Option.bind_eq_some_iff.mp h
  obtain ⟨⟨x26, x27⟩, A28, h⟩ := h
  try dsimp only at h
  have HA28 := Lib.hid A28
  clear A28
  replace h := Option.bind_eq_some_iff.mp h
  obtain ⟨x30, A31, h⟩ := h
  try dsimp only at h
  have HA31 := Lib.hid A31
  clear A31
  replace h := Option.bind_eq_some_iff.mp h
  obtain ⟨x34, A35, h⟩ := h
  try dsimp only at h
  have HA35 := Lib.hid A35
  clear A35
  replace h := Option.bind_eq_some_iff.mp h
  obtain ⟨x37, A38, h⟩ := h
  try dsimp only at h
  have HA38 := Lib.hid A38
  clear A38
  replace h := Option.bind_eq_some_iff.mp h
  obtain ⟨⟨x39, x40⟩, A41, h⟩ := h
  try dsimp only at h
  have HA41 := Lib.hid A41
  clear A41
  replace h := Option.bind_eq_some_iff.mp h
  obtain ⟨⟨x42, x43⟩, A44, h⟩ := h
  try dsimp only at h
  have HA44 := Lib.hid A44
  clear A44
  replace h := Option.bind_eq_some_iff.mp h
  obtain ⟨⟨x45, x46⟩, A47, h⟩ := h
  try dsimp only at h
  have HA47 := Lib.hid A47
  clear A47
  replace h := Option.bind_eq_some_iff.mp h
  obtain ⟨x48, A49, h⟩ := h
  try dsimp only at h
  have HA49 := Lib.hid A49
  clear A49
  obtain ⟨hc, rfl⟩ := Lv.of_if h
  clear h
  obtain ⟨rfl, rfl, rfl, rfl, hnx42, hnx48, rfl⟩ := hc
  have HNx42 := Lib.hid hnx42
  clear hnx42
  have HNx48 := Lib.hid hnx48
  clear hnx48
  go_upto_region 8 with (fail)
  refine Fl.startL [.take 0, .one 1, .take 2, .one 3, .one 4, .take 5, .take 6, .take 7, .take 8, .take 9] (by decide) HI.out ?_
  refine Fl.take (some 28) (v := .agg #[.slice A0_0 l0_0.length c0_0, .int .i64 a0_1, .int .i64 a0_2, .int .i64 a0_3, .int .i64 a0_4, .int .i64 a0_5, .slice A0_6 l0_6.length c0_6]) rfl rfl (Fl.ld 0 rfl (by rfl) _ _ rfl rfl Try.underlying29 rfl (by kernel_rfl)) ?_
  simp only [Act.put, Fl.z1, Fl.z2, Fl.z3]
  refine Fl.call (some 29) Try.func9 (by kernel_rfl) rfl #[.agg #[.slice A0_0 l0_0.length c0_0, .int .i64 a0_1, .int .i64 a0_2, .int .i64 a0_3, .int .i64 a0_4, .int .i64 a0_5, .slice A0_6 l0_6.length c0_6]] rfl rfl rfl (by rfl) rfl (fun E W hE hi => ?_)
  refine (laws_toArena.calls k _ _ l0_0 a0_1 a0_2 a0_3 a0_4 a0_5 _ _ l0_6 x5 x6 x7 x8 x9 x10 x11 W (Kd.C_below HR0_0.out hi.bel) HC0_0.out (Kd.C_below HR0_6.out hi.bel) HC0_6.out HA12.out).mono ?_
  rintro e W' ⟨v1, v2, rfl, hr1, hr2, hb⟩
  obtain ⟨Aq13, cq13, rfl⟩ := Kd.S_slice hr1
  obtain ⟨Aq14, cq14, rfl⟩ := Kd.R_slice hr2
  refine Fl.addSR (by decide) hi hr1 hr2 hb ?_
  clear hr1 hr2
  clear hi hb hE
  simp only [Act.put, Fl.z1, Fl.z2, Fl.z3]
  refine Fl.take (some 30) (v := .slice A1 l1.length c1) rfl rfl (Or.inl ⟨by rfl, fun _ _ => by rfl⟩) ?_
  simp only [Act.put, Fl.z1, Fl.z2, Fl.z3]
  refine Fl.call (some 31) Try.func21 (by kernel_rfl) rfl #[.slice A1 l1.length c1] rfl rfl rfl (by rfl) rfl (fun E W hE hi => ?_)
  refine (laws_toAskedS.calls k _ _ l1 x15 W (Kd.C_below HR1.out hi.bel) HC1.out HA16.out).mono ?_
  rintro e W' ⟨v, rfl, hr, hb⟩
  obtain ⟨Aq17, cq17, rfl⟩ := Kd.R_slice hr
  refine Fl.addR hi (Kd.R_mono hr (fun _ _ => trivial)) hb ?_
  clear hr
  clear hi hb hE
  simp only [Act.put, Fl.z1, Fl.z2, Fl.z3]
  refine Fl.call (some 32) Try.func20 (by kernel_rfl) rfl #[.agg #[.slice Aq13 x5.length cq13, .int .i64 x6, .int .i64 x7, .int .i64 x8, .int .i64 x9, .int .i64 x10, .slice Aq14 x11.length cq14], .slice Aq17 x15.length cq17] rfl rfl rfl (by rfl) rfl (fun E W hE hi => ?_)
  refine (spec_BestOrder.calls k _ _ x5 x6 x7 x8 x9 x10 _ _ x11 _ _ x15 x18 x27 W (hi.cS 1 rfl) (hi.lS 1 rfl) (hi.cR 2 rfl) (hi.lR 2 rfl) (hi.cR 0 rfl) (hi.lR 0 rfl) HA20.out).mono ?_
  rintro e W' ⟨v, rfl, hr, hb⟩
  obtain ⟨Aq21, cq21, rfl⟩ := Kd.V_slice hr
  refine Fl.addV hi hr hb ?_
  clear hr hi hb hE
  simp only [Act.put, Fl.z1, Fl.z2, Fl.z3]
  refine Fl.take (some 27) (v := .tuple #[.slice Aq21 x18.length cq21, .bool x27]) rfl rfl (Or.inl ⟨by rfl, fun _ _ => by rfl⟩) ?_
  simp only [Act.put, Fl.z1, Fl.z2, Fl.z3]
  refine Fl.take (some 33) (v := .slice Aq21 x18.length cq21) rfl rfl (Or.inl ⟨by rfl, fun _ _ => by rfl⟩) ?_
  simp only [Act.put, Fl.z1, Fl.z2, Fl.z3]
  refine Fl.take (some 34) (v := .bool x27) rfl rfl (Or.inl ⟨by rfl, fun _ _ => by rfl⟩) ?_
  simp only [Act.put, Fl.z1, Fl.z2, Fl.z3]
  refine Fl.take (some 6) (v := .slice Aq21 x18.length cq21) rfl rfl (Or.inl ⟨by rfl, fun _ _ => by rfl⟩) ?_
  simp only [Act.put, Fl.z1, Fl.z2, Fl.z3]
  refine Fl.take (some 7) (v := .bool x27) rfl rfl (Or.inl ⟨by rfl, fun _ _ => by rfl⟩) ?_
  simp only [Act.put, Fl.z1, Fl.z2, Fl.z3]
  refine Fl.stop (fun W hi => ?_)
  replace HI := Lib.hid hi
  clear hi
  try clear hn_
  go_upto_region 9 with (fail)
  refine Fl.startL [.take 0, .one 1, .one 2, .one 3] (by decide) HI.out ?_
  refine Fl.take (some 35) (v := .agg #[.slice A0_0 l0_0.length c0_0, .int .i64 a0_1, .int .i64 a0_2, .int .i64 a0_3, .int .i64 a0_4, .int .i64 a0_5, .slice A0_6 l0_6.length c0_6]) rfl rfl (Fl.ld 4 rfl (by rfl) _ _ rfl rfl Try.underlying29 rfl (by kernel_rfl)) ?_
  simp only [Act.put, Fl.z1, Fl.z2, Fl.z3]
  refine Fl.call (some 36) Try.func9 (by kernel_rfl) rfl #[.agg #[.slice A0_0 l0_0.length c0_0, .int .i64 a0_1, .int .i64 a0_2, .int .i64 a0_3, .int .i64 a0_4, .int .i64 a0_5, .slice A0_6 l0_6.length c0_6]] rfl rfl rfl (by rfl) rfl (fun E W hE hi => ?_)
  refine (laws_toArena.calls k _ _ l0_0 a0_1 a0_2 a0_3 a0_4 a0_5 _ _ l0_6 x5 x6 x7 x8 x9 x10 x11 W (Kd.C_below HR0_0.out hi.bel) HC0_0.out (Kd.C_below HR0_6.out hi.bel) HC0_6.out HA12.out).mono ?_
  rintro e W' ⟨v1, v2, rfl, hr1, hr2, hb⟩
  obtain ⟨Aq22, cq22, rfl⟩ := Kd.S_slice hr1
  obtain ⟨Aq23, cq23, rfl⟩ := Kd.R_slice hr2
  refine Fl.addSR (by decide) hi hr1 hr2 hb ?_
  clear hr1 hr2
  clear hi hb hE
  simp only [Act.put, Fl.z1, Fl.z2, Fl.z3]
  refine Fl.var (N := 8) (cs := #[.slice none 0 0, .int .i64 0, .int .i64 0, .int .i64 0, .int .i64 0, .int .i64 0, .slice none 0 0]) (t := 38) ⟨_, rfl, rfl, fun _ => rfl, fun e w => by go_simp⟩ (fun b24 => ?_)
  simp only [Act.put, Fl.z1, Fl.z2, Fl.z3]
  refine Fl.store 0 #[.slice Aq22 x5.length cq22, .int .i64 x6, .int .i64 x7, .int .i64 x8, .int .i64 x9, .int .i64 x10, .slice Aq23 x11.length cq23] rfl rfl rfl rfl _ _ _ rfl rfl rfl (by rfl) rfl (by kernel_rfl) (by simp [Value.oneCell']) ?_
  refine Fl.stop (fun W hi => ?_)
  replace HI := Lib.hid hi
  clear hi
  try clear hn_
  go_upto_region 10 with (fail)
  refine Fl.startL [.take 0, .one 1, .take 2] (by decide) HI.out ?_
  refine Fl.take (some 37) (v := .slice A1 l1.length c1) rfl rfl (Or.inl ⟨by rfl, fun _ _ => by rfl⟩) ?_
  simp only [Act.put, Fl.z1, Fl.z2, Fl.z3]
  refine Fl.call (some 38) Try.func21 (by kernel_rfl) rfl #[.slice A1 l1.length c1] rfl rfl rfl (by rfl) rfl (fun E W hE hi => ?_)
  refine (laws_toAskedS.calls k _ _ l1 x15 W (Kd.C_below HR1.out hi.bel) HC1.out HA16.out).mono ?_
  rintro e W' ⟨v, rfl, hr, hb⟩
  obtain ⟨Aq25, cq25, rfl⟩ := Kd.R_slice hr
  refine Fl.addR hi (Kd.R_mono hr (fun _ _ => trivial)) hb ?_
  clear hr
  clear hi hb hE
  simp only [Act.put, Fl.z1, Fl.z2, Fl.z3]
  refine Fl.take (some 9) (v := .slice Aq25 x15.length cq25) rfl rfl (Or.inl ⟨by rfl, fun _ _ => by rfl⟩) ?_
  simp only [Act.put, Fl.z1, Fl.z2, Fl.z3]
  refine Fl.stop (fun W hi => ?_)
  replace HI := Lib.hid hi
  clear hi
  try clear hn_
  go_upto_region 11 with (fail)
  refine Fl.startL [.take 0, .take 1, .one 2, .take 3, .take 4, .take 5, .take 6, .take 7] (by decide) HI.out ?_
  refine Fl.take (some 40) (v := .agg #[.slice Aq22 x5.length cq22, .int .i64 x6, .int .i64 x7, .int .i64 x8, .int .i64 x9, .int .i64 x10, .slice Aq23 x11.length cq23]) rfl rfl (Fl.ld 1 rfl (by rfl) _ _ rfl rfl Try.underlying38 rfl (by kernel_rfl)) ?_
  simp only [Act.put, Fl.z1, Fl.z2, Fl.z3]
  refine Fl.take (some 41) (v := .slice Aq25 x15.length cq25) rfl rfl (Or.inl ⟨by rfl, fun _ _ => by rfl⟩) ?_
  simp only [Act.put, Fl.z1, Fl.z2, Fl.z3]
  refine Fl.call (some 42) Try.func22 (by kernel_rfl) rfl #[.agg #[.slice Aq22 x5.length cq22, .int .i64 x6, .int .i64 x7, .int .i64 x8, .int .i64 x9, .int .i64 x10, .slice Aq23 x11.length cq23], .slice Aq25 x15.length cq25] rfl rfl rfl (by rfl) rfl (fun E W hE hi => ?_)
  refine (impl_BestOrder.calls k _ _ x5 x6 x7 x8 x9 x10 _ _ x11 _ _ x15 x26 x27 W ((hE _ (Fl.inv_drop hi)).cS 2 rfl) ((hE _ (Fl.inv_drop hi)).lS 2 rfl) ((hE _ (Fl.inv_drop hi)).cR 3 rfl) ((hE _ (Fl.inv_drop hi)).lR 3 rfl) ((hE _ (Fl.inv_drop hi)).cR 0 rfl) ((hE _ (Fl.inv_drop hi)).lR 0 rfl) HA28.out).mono ?_
  rintro e W' ⟨v, rfl, hr, hb⟩
  obtain ⟨Aq29, cq29, rfl⟩ := Kd.R_slice hr
  refine Fl.addR hi (Kd.R_mono hr (fun _ _ => trivial)) hb ?_
  clear hr
  clear hi hb hE
  simp only [Act.put, Fl.z1, Fl.z2, Fl.z3]
  refine Fl.take (some 39) (v := .tuple #[.slice Aq29 x26.length cq29, .bool x27]) rfl rfl (Or.inl ⟨by rfl, fun _ _ => by rfl⟩) ?_
  simp only [Act.put, Fl.z1, Fl.z2, Fl.z3]
  refine Fl.take (some 43) (v := .slice Aq29 x26.length cq29) rfl rfl (Or.inl ⟨by rfl, fun _ _ => by rfl⟩) ?_
  simp only [Act.put, Fl.z1, Fl.z2, Fl.z3]
  refine Fl.take (some 44) (v := .bool x27) rfl rfl (Or.inl ⟨by rfl, fun _ _ => by rfl⟩) ?_
  simp only [Act.put, Fl.z1, Fl.z2, Fl.z3]
  refine Fl.take (some 10) (v := .slice Aq29 x26.length cq29) rfl rfl (Or.inl ⟨by rfl, fun _ _ => by rfl⟩) ?_
  simp only [Act.put, Fl.z1, Fl.z2, Fl.z3]
  refine Fl.take (some 11) (v := .bool x27) rfl rfl (Or.inl ⟨by rfl, fun _ _ => by rfl⟩) ?_
  simp only [Act.put, Fl.z1, Fl.z2, Fl.z3]
  refine Fl.stop (fun W hi => ?_)
  replace HI := Lib.hid hi
  clear hi
  try clear hn_
  go_upto_region 12 with (fail)
  refine Fl.startL [.take 0, .take 1, .one 2, .take 3, .take 4, .take 5, .take 6, .take 7, .take 8] (by decide) HI.out ?_
  refine Fl.take (some 45) (v := .slice Aq29 x26.length cq29) rfl rfl (Or.inl ⟨by rfl, fun _ _ => by rfl⟩) ?_
  simp only [Act.put, Fl.z1, Fl.z2, Fl.z3]
  refine Fl.take (some 46) (v := .slice Aq21 x18.length cq21) rfl rfl (Or.inl ⟨by rfl, fun _ _ => by rfl⟩) ?_
  simp only [Act.put, Fl.z1, Fl.z2, Fl.z3]
  refine Fl.call (some 47) Try.func12 (by kernel_rfl) rfl #[.slice Aq29 x26.length cq29, .slice Aq21 x18.length cq21] rfl rfl rfl (by rfl) rfl (fun E W hE hi => ?_)
  refine (laws_eqIntS.calls k _ _ x26 _ _ x18 true W ((hE _ (Fl.inv_drop hi)).cR 0 rfl) ((hE _ (Fl.inv_drop hi)).lR 0 rfl) ((hE _ (Fl.inv_drop hi)).cV 5 rfl) ((hE _ (Fl.inv_drop hi)).lV 5 rfl) HA31.out).mono ?_
  rintro e W' ⟨rfl, hb⟩
  refine Fl.keep hi hb.below ?_
  clear hi hb hE
  simp only [Act.put, Fl.z1, Fl.z2, Fl.z3]
  refine Fl.take (some 48) (v := .bool false) rfl rfl (Or.inl ⟨by rfl, fun _ _ => by rfl⟩) ?_
  simp only [Act.put, Fl.z1, Fl.z2, Fl.z3]
  refine Fl.take (some 49) (v := .bool false) rfl rfl (Or.inl ⟨by rfl, fun _ _ => by rfl⟩) ?_
  simp only [Act.put, Fl.z1, Fl.z2, Fl.z3]
  refine Fl.take (some 50) (v := .bool x27) rfl rfl (Or.inl ⟨by rfl, fun _ _ => by rfl⟩) ?_
  simp only [Act.put, Fl.z1, Fl.z2, Fl.z3]
  refine Fl.take (some 51) (v := .bool x27) rfl rfl (Or.inl ⟨by rfl, fun _ _ => by rfl⟩) ?_
  simp only [Act.put, Fl.z1, Fl.z2, Fl.z3]
  refine Fl.take (some 52) (v := .bool false) rfl rfl (Or.inl ⟨by rfl, fun _ _ => by go_simp⟩) ?_
  simp only [Act.put, Fl.z1, Fl.z2, Fl.z3]
  refine Fl.take (some 53) (v := .bool false) rfl rfl (Or.inl ⟨by rfl, fun _ _ => by rfl⟩) ?_
  simp only [Act.put, Fl.z1, Fl.z2, Fl.z3]
  refine Fl.stop (fun W hi => ?_)
  replace HI := Lib.hid hi
  clear hi
  try clear hn_
  go_upto_region 14 with (fail)
  refine Fl.start [([],[]),([],[]),([1],[1]),([0,2,2],[0,2]),([3],[3])] [] 6 [.take 0, .take 1, .one 2, .one 3, .take 4] [] (by kernel_rfl) (by kernel_rfl) (by decide) (by decide) (by kernel_rfl) (by kernel_rfl) Fl.mk0 HI.out ?_
  refine Fl.take (some 54) (v := .agg #[.slice Aq22 x5.length cq22, .int .i64 x6, .int .i64 x7, .int .i64 x8, .int .i64 x9, .int .i64 x10, .slice Aq23 x11.length cq23]) rfl rfl (Fl.ld 2 rfl (by rfl) _ _ rfl rfl Try.underlying38 rfl (by kernel_rfl)) ?_
  simp only [Act.put, Fl.z1, Fl.z2, Fl.z3]
  refine Fl.take (some 55) (v := .agg #[.slice A0_0 l0_0.length c0_0, .int .i64 a0_1, .int .i64 a0_2, .int .i64 a0_3, .int .i64 a0_4, .int .i64 a0_5, .slice A0_6 l0_6.length c0_6]) rfl rfl (Fl.ld 9 rfl (by rfl) _ _ rfl rfl Try.underlying29 rfl (by kernel_rfl)) ?_
  simp only [Act.put, Fl.z1, Fl.z2, Fl.z3]
  refine Fl.call (some 56) Try.func9 (by kernel_rfl) rfl #[.agg #[.slice A0_0 l0_0.length c0_0, .int .i64 a0_1, .int .i64 a0_2, .int .i64 a0_3, .int .i64 a0_4, .int .i64 a0_5, .slice A0_6 l0_6.length c0_6]] rfl rfl rfl (by rfl) rfl (fun E W hE hi => ?_)
  refine (laws_toArena.calls k _ _ l0_0 a0_1 a0_2 a0_3 a0_4 a0_5 _ _ l0_6 x5 x6 x7 x8 x9 x10 x11 W (Kd.C_below HR0_0.out hi.bel) HC0_0.out (Kd.C_below HR0_6.out hi.bel) HC0_6.out HA12.out).mono ?_
  rintro e W' ⟨v1, v2, rfl, hr1, hr2, hb⟩
  obtain ⟨Aq32, cq32, rfl⟩ := Kd.S_slice hr1
  obtain ⟨Aq33, cq33, rfl⟩ := Kd.R_slice hr2
  refine Fl.addSR (by decide) hi hr1 hr2 hb ?_
  clear hr1 hr2
  clear hi hb hE
  simp only [Act.put, Fl.z1, Fl.z2, Fl.z3]
  refine Fl.call (some 57) Try.func13 (by kernel_rfl) rfl #[.agg #[.slice Aq22 x5.length cq22, .int .i64 x6, .int .i64 x7, .int .i64 x8, .int .i64 x9, .int .i64 x10, .slice Aq23 x11.length cq23], .agg #[.slice Aq32 x5.length cq32, .int .i64 x6, .int .i64 x7, .int .i64 x8, .int .i64 x9, .int .i64 x10, .slice Aq33 x11.length cq33]] rfl rfl rfl (by rfl) rfl (fun E W hE hi => ?_)
  refine (laws_eqArena.calls k _ _ x5 x6 x7 x8 x9 x10 _ _ x11 _ _ x5 x6 x7 x8 x9 x10 _ _ x11 true W ((hE _ (Fl.inv_drop hi)).cS 3 rfl) ((hE _ (Fl.inv_drop hi)).lS 3 rfl) ((hE _ (Fl.inv_drop hi)).cR 4 rfl) ((hE _ (Fl.inv_drop hi)).lR 4 rfl) (hi.cS 0 rfl) (hi.lS 0 rfl) (hi.cR 1 rfl) (hi.lR 1 rfl) HA35.out).mono ?_
  rintro e W' ⟨rfl, hb⟩
  refine Fl.keep hi hb ?_
  clear hi hb hE
  simp only [Act.put, Fl.z1, Fl.z2, Fl.z3]
  refine Fl.take (some 58) (v := .bool false) rfl rfl (Or.inl ⟨by rfl, fun _ _ => by rfl⟩) ?_
  simp only [Act.put, Fl.z1, Fl.z2, Fl.z3]
  refine Fl.fin0 ?_
  refine Fl.stopN (fun W hi => ?_)
  replace HI := Lib.hid hi
  clear hi
  try clear hn_
  go_upto_region 16 with (fail)
  refine Fl.startL [.take 0, .take 1, .one 2, .one 3, .take 4] (by decide) HI.out ?_
  refine Fl.take (some 59) (v := .slice Aq25 x15.length cq25) rfl rfl (Or.inl ⟨by rfl, fun _ _ => by rfl⟩) ?_
  simp only [Act.put, Fl.z1, Fl.z2, Fl.z3]
  refine Fl.take (some 60) (v := .slice A1 l1.length c1) rfl rfl (Or.inl ⟨by rfl, fun _ _ => by rfl⟩) ?_
  simp only [Act.put, Fl.z1, Fl.z2, Fl.z3]
  refine Fl.call (some 61) Try.func21 (by kernel_rfl) rfl #[.slice A1 l1.length c1] rfl rfl rfl (by rfl) rfl (fun E W hE hi => ?_)
  refine (laws_toAskedS.calls k _ _ l1 x15 W (Kd.C_below HR1.out hi.bel) HC1.out HA16.out).mono ?_
  rintro e W' ⟨v, rfl, hr, hb⟩
  obtain ⟨Aq36, cq36, rfl⟩ := Kd.R_slice hr
  refine Fl.addR hi (Kd.R_mono hr (fun _ _ => trivial)) hb ?_
  clear hr
  clear hi hb hE
  simp only [Act.put, Fl.z1, Fl.z2, Fl.z3]
  refine Fl.call (some 62) Try.func23 (by kernel_rfl) rfl #[.slice Aq25 x15.length cq25, .slice Aq36 x15.length cq36] rfl rfl rfl (by rfl) rfl (fun E W hE hi => ?_)
  refine (laws_eqAskedS.calls k _ _ x15 _ _ x15 true W ((hE _ (Fl.inv_drop hi)).cR 3 rfl) ((hE _ (Fl.inv_drop hi)).lR 3 rfl) (hi.cR 0 rfl) (hi.lR 0 rfl) HA38.out).mono ?_
  rintro e W' ⟨rfl, hb⟩
  refine Fl.keep hi hb ?_
  clear hi hb hE
  simp only [Act.put, Fl.z1, Fl.z2, Fl.z3]
  refine Fl.take (some 63) (v := .bool false) rfl rfl (Or.inl ⟨by rfl, fun _ _ => by rfl⟩) ?_
  simp only [Act.put, Fl.z1, Fl.z2, Fl.z3]
  refine Fl.stop (fun W hi => ?_)
  replace HI := Lib.hid hi
  clear hi
  try clear hn_
  go_upto_region 19 with (fail)
  refine Fl.startW [.one 0, .take 1, .one 2, .take 3] (by decide) HI.out ?_
  refine Fl.ldF (some 64) 5 rfl rfl rfl (by rfl) _ _ rfl rfl Try.underlying38 rfl (by kernel_rfl) ?_
  simp only [Act.put, Fl.z1, Fl.z2, Fl.z3]
  refine Fl.take (some 65) (v := .int .i64 1) rfl rfl (Or.inl ⟨by rfl, fun _ _ => by rfl⟩) ?_
  simp only [Act.put, Fl.z1, Fl.z2, Fl.z3]
  refine Fl.call (some 66) Try.func15 (by kernel_rfl) rfl #[.agg #[.slice Aq22 x5.length cq22, .int .i64 x6, .int .i64 x7, .int .i64 x8, .int .i64 x9, .int .i64 x10, .slice Aq23 x11.length cq23], .int .i64 1] rfl rfl rfl (by rfl) rfl (fun E W hE hi => ?_)
  refine Fl.markSR 6 7 rfl rfl hi (fun Qs hQ h1 h2 => laws_markArena.calls k _ _ _ _ _ _ _ _ _ _ _ _ _ _ Qs 6 7 (by decide) hQ h1 h2 HA41.out) ?_
  clear hi hE
  simp only [Act.put, Fl.z1, Fl.z2, Fl.z3]
  refine Fl.take (some 12) (v := .int .i64 x39) rfl rfl (Or.inl ⟨by rfl, fun _ _ => by rfl⟩) ?_
  simp only [Act.put, Fl.z1, Fl.z2, Fl.z3]
  refine Fl.stopW (fun W hi => ?_)
  replace HI := Lib.hid hi
  clear hi
  try clear hn_
  go_upto_region 20 with (fail)
  refine Fl.startW [.take 0, .take 1, .one 2, .take 3] (by decide) HI.out ?_
  refine Fl.take (some 67) (v := .slice Aq25 x15.length cq25) rfl rfl (Or.inl ⟨by rfl, fun _ _ => by rfl⟩) ?_
  simp only [Act.put, Fl.z1, Fl.z2, Fl.z3]
  refine Fl.take (some 68) (v := .int .i64 x39) rfl rfl (Or.inl ⟨by rfl, fun _ _ => by rfl⟩) ?_
  simp only [Act.put, Fl.z1, Fl.z2, Fl.z3]
  refine Fl.call (some 69) Try.func24 (by kernel_rfl) rfl #[.slice Aq25 x15.length cq25, .int .i64 x39] rfl rfl rfl (by rfl) rfl (fun E W hE hi => ?_)
  refine Fl.markR 4 rfl hi rfl (fun S hS => laws_markAskedS.calls k S _ _ _ _ _ _ _ hi.bel hS HA44.out) ?_
  clear hi hE
  simp only [Act.put, Fl.z1, Fl.z2, Fl.z3]
  refine Fl.take (some 12) (v := .int .i64 x42) rfl rfl (Or.inl ⟨by rfl, fun _ _ => by rfl⟩) ?_
  simp only [Act.put, Fl.z1, Fl.z2, Fl.z3]
  refine Fl.stopW (fun W hi => ?_)
  replace HI := Lib.hid hi
  clear hi
  try clear hn_
  go_upto_region 21 with (fail)
  refine Fl.startL [.take 0, .take 1, .take 2, .take 3, .take 4, .one 5, .take 6, .take 7, .take 8, .take 9, .take 10, .take 11, .take 12] (by decide) HI.out ?_
  refine Fl.take (some 70) (v := .int .i64 x42) rfl rfl (Or.inl ⟨by rfl, fun _ _ => by rfl⟩) ?_
  simp only [Act.put, Fl.z1, Fl.z2, Fl.z3]
  refine Fl.take (some 71) (v := .bool false) rfl rfl (Or.inl ⟨by rfl, fun _ _ => by have h_ := decide_eq_false HNx42.out; go_simp⟩) ?_
  simp only [Act.put, Fl.z1, Fl.z2, Fl.z3]
  refine Fl.take (some 72) (v := .bool false) rfl rfl (Or.inl ⟨by rfl, fun _ _ => by rfl⟩) ?_
  simp only [Act.put, Fl.z1, Fl.z2, Fl.z3]
  refine Fl.take (some 73) (v := .slice Aq29 x26.length cq29) rfl rfl (Or.inl ⟨by rfl, fun _ _ => by rfl⟩) ?_
  simp only [Act.put, Fl.z1, Fl.z2, Fl.z3]
  refine Fl.take (some 74) (v := .slice Aq21 x18.length cq21) rfl rfl (Or.inl ⟨by rfl, fun _ _ => by rfl⟩) ?_
  simp only [Act.put, Fl.z1, Fl.z2, Fl.z3]
  refine Fl.call (some 75) Try.func12 (by kernel_rfl) rfl #[.slice Aq29 x26.length cq29, .slice Aq21 x18.length cq21] rfl rfl rfl (by rfl) rfl (fun E W hE hi => ?_)
  refine (laws_eqIntS.calls k _ _ x26 _ _ x18 true W ((hE _ (Fl.inv_drop hi)).cR 3 rfl) ((hE _ (Fl.inv_drop hi)).lR 3 rfl) ((hE _ (Fl.inv_drop hi)).cV 8 rfl) ((hE _ (Fl.inv_drop hi)).lV 8 rfl) HA31.out).mono ?_
  rintro e W' ⟨rfl, hb⟩
  refine Fl.keep hi hb.below ?_
  clear hi hb hE
  simp only [Act.put, Fl.z1, Fl.z2, Fl.z3]
  refine Fl.take (some 76) (v := .bool false) rfl rfl (Or.inl ⟨by rfl, fun _ _ => by rfl⟩) ?_
  simp only [Act.put, Fl.z1, Fl.z2, Fl.z3]
  refine Fl.take (some 77) (v := .bool false) rfl rfl (Or.inl ⟨by rfl, fun _ _ => by rfl⟩) ?_
  simp only [Act.put, Fl.z1, Fl.z2, Fl.z3]
  refine Fl.take (some 78) (v := .bool false) rfl rfl (Or.inl ⟨by rfl, fun _ _ => by rfl⟩) ?_
  simp only [Act.put, Fl.z1, Fl.z2, Fl.z3]
  refine Fl.take (some 79) (v := .bool x27) rfl rfl (Or.inl ⟨by rfl, fun _ _ => by rfl⟩) ?_
  simp only [Act.put, Fl.z1, Fl.z2, Fl.z3]
  refine Fl.take (some 80) (v := .bool x27) rfl rfl (Or.inl ⟨by rfl, fun _ _ => by rfl⟩) ?_
  simp only [Act.put, Fl.z1, Fl.z2, Fl.z3]
  refine Fl.take (some 81) (v := .bool false) rfl rfl (Or.inl ⟨by rfl, fun _ _ => by go_simp⟩) ?_
  simp only [Act.put, Fl.z1, Fl.z2, Fl.z3]
  refine Fl.take (some 82) (v := .bool false) rfl rfl (Or.inl ⟨by rfl, fun _ _ => by rfl⟩) ?_
  simp only [Act.put, Fl.z1, Fl.z2, Fl.z3]
  refine Fl.stop (fun W hi => ?_)
  replace HI := Lib.hid hi
  clear hi
  try clear hn_
  go_upto_region 24 with (fail)
  refine Fl.startW [.take 0, .take 1, .one 2, .take 3] (by decide) HI.out ?_
  refine Fl.take (some 83) (v := .slice Aq29 x26.length cq29) rfl rfl (Or.inl ⟨by rfl, fun _ _ => by rfl⟩) ?_
  simp only [Act.put, Fl.z1, Fl.z2, Fl.z3]
  refine Fl.take (some 84) (v := .int .i64 1) rfl rfl (Or.inl ⟨by rfl, fun _ _ => by rfl⟩) ?_
  simp only [Act.put, Fl.z1, Fl.z2, Fl.z3]
  refine Fl.call (some 85) Try.func17 (by kernel_rfl) rfl #[.slice Aq29 x26.length cq29, .int .i64 1] rfl rfl rfl (by rfl) rfl (fun E W hE hi => ?_)
  refine Fl.markR 3 rfl hi rfl (fun S hS => laws_markIntS.calls k S _ _ _ _ _ _ _ hi.bel hS HA47.out) ?_
  clear hi hE
  simp only [Act.put, Fl.z1, Fl.z2, Fl.z3]
  refine Fl.take (some 13) (v := .int .i64 x48) rfl rfl (Or.inl ⟨by rfl, fun _ _ => by rfl⟩) ?_
  simp only [Act.put, Fl.z1, Fl.z2, Fl.z3]
  refine Fl.stopW (fun W hi => ?_)
  replace HI := Lib.hid hi
  clear hi
  try clear hn_
  go_upto_region 26 with (fail)
  refine Fl.startL [.take 0, .take 1, .one 2, .take 3] (by decide) HI.out ?_
  refine Fl.take (some 86) (v := .slice Aq29 x26.length cq29) rfl rfl (Or.inl ⟨by rfl, fun _ _ => by rfl⟩) ?_
  simp only [Act.put, Fl.z1, Fl.z2, Fl.z3]
  refine Fl.take (some 87) (v := .int .i64 1) rfl rfl (Or.inl ⟨by rfl, fun _ _ => by rfl⟩) ?_
  simp only [Act.put, Fl.z1, Fl.z2, Fl.z3]
  refine Fl.call (some 88) Try.func18 (by kernel_rfl) rfl #[.slice Aq29 x26.length cq29, .int .i64 1] rfl rfl rfl (by rfl) rfl (fun E W hE hi => ?_)
  have hl_ := ((hE _ (Fl.inv_drop hi)).reads 3 rfl).1
  have hc_ := laws_heldIntS.calls k _ _ x46 1 x48 W ((hE _ (Fl.inv_drop hi)).reads 3 rfl).2.2 (hl_ ▸ ((hE _ (Fl.inv_drop hi)).reads 3 rfl).2.1) HA49.out
  rw [← hl_] at hc_
  refine hc_.mono ?_
  clear hc_ hl_
  rintro e W' ⟨rfl, hb⟩
  refine Fl.keep hi hb.below ?_
  clear hi hb hE
  simp only [Act.put, Fl.z1, Fl.z2, Fl.z3]
  refine Fl.take (some 14) (v := .int .i64 x48) rfl rfl (Or.inl ⟨by rfl, fun _ _ => by rfl⟩) ?_
  simp only [Act.put, Fl.z1, Fl.z2, Fl.z3]
  refine Fl.stop (fun W hi => ?_)
  replace HI := Lib.hid hi
  clear hi
  try clear hn_
  have hn_ := decide_eq_false HNx48.out
  go_upto_region 31 with (fail)
  refine Fl.startL [.take 0, .one 1, .take 2, .one 3, .one 4, .take 5, .take 6, .take 7, .take 8, .take 9] (by decide) HI.out ?_
  refine Fl.take (some 95) (v := .agg #[.slice A0_0 l0_0.length c0_0, .int .i64 a0_1, .int .i64 a0_2, .int .i64 a0_3, .int .i64 a0_4, .int .i64 a0_5, .slice A0_6 l0_6.length c0_6]) rfl rfl (Fl.ld 12 rfl (by rfl) _ _ rfl rfl Try.underlying29 rfl (by kernel_rfl)) ?_
  simp only [Act.put, Fl.z1, Fl.z2, Fl.z3]
  refine Fl.call (some 96) Try.func9 (by kernel_rfl) rfl #[.agg #[.slice A0_0 l0_0.length c0_0, .int .i64 a0_1, .int .i64 a0_2, .int .i64 a0_3, .int .i64 a0_4, .int .i64 a0_5, .slice A0_6 l0_6.length c0_6]] rfl rfl rfl (by rfl) rfl (fun E W hE hi => ?_)
  refine (laws_toArena.calls k _ _ l0_0 a0_1 a0_2 a0_3 a0_4 a0_5 _ _ l0_6 x5 x6 x7 x8 x9 x10 x11 W (Kd.C_below HR0_0.out hi.bel) HC0_0.out (Kd.C_below HR0_6.out hi.bel) HC0_6.out HA12.out).mono ?_
  rintro e W' ⟨v1, v2, rfl, hr1, hr2, hb⟩
  obtain ⟨Aq50, cq50, rfl⟩ := Kd.S_slice hr1
  obtain ⟨Aq51, cq51, rfl⟩ := Kd.R_slice hr2
  refine Fl.addSR (by decide) hi hr1 hr2 hb ?_
  clear hr1 hr2
  clear hi hb hE
  simp only [Act.put, Fl.z1, Fl.z2, Fl.z3]
  refine Fl.take (some 97) (v := .slice A1 l1.length c1) rfl rfl (Or.inl ⟨by rfl, fun _ _ => by rfl⟩) ?_
  simp only [Act.put, Fl.z1, Fl.z2, Fl.z3]
  refine Fl.call (some 98) Try.func21 (by kernel_rfl) rfl #[.slice A1 l1.length c1] rfl rfl rfl (by rfl) rfl (fun E W hE hi => ?_)
  refine (laws_toAskedS.calls k _ _ l1 x15 W (Kd.C_below HR1.out hi.bel) HC1.out HA16.out).mono ?_
  rintro e W' ⟨v, rfl, hr, hb⟩
  obtain ⟨Aq52, cq52, rfl⟩ := Kd.R_slice hr
  refine Fl.addR hi (Kd.R_mono hr (fun _ _ => trivial)) hb ?_
  clear hr
  clear hi hb hE
  simp only [Act.put, Fl.z1, Fl.z2, Fl.z3]
  refine Fl.call (some 99) Try.func22 (by kernel_rfl) rfl #[.agg #[.slice Aq50 x5.length cq50, .int .i64 x6, .int .i64 x7, .int .i64 x8, .int .i64 x9, .int .i64 x10, .slice Aq51 x11.length cq51], .slice Aq52 x15.length cq52] rfl rfl rfl (by rfl) rfl (fun E W hE hi => ?_)
  refine (impl_BestOrder.calls k _ _ x5 x6 x7 x8 x9 x10 _ _ x11 _ _ x15 x26 x27 W (hi.cS 1 rfl) (hi.lS 1 rfl) (hi.cR 2 rfl) (hi.lR 2 rfl) (hi.cR 0 rfl) (hi.lR 0 rfl) HA28.out).mono ?_
  rintro e W' ⟨v, rfl, hr, hb⟩
  obtain ⟨Aq53, cq53, rfl⟩ := Kd.R_slice hr
  refine Fl.addR hi (Kd.R_mono hr (fun _ _ => trivial)) hb ?_
  clear hr
  clear hi hb hE
  simp only [Act.put, Fl.z1, Fl.z2, Fl.z3]
  refine Fl.take (some 94) (v := .tuple #[.slice Aq53 x26.length cq53, .bool x27]) rfl rfl (Or.inl ⟨by rfl, fun _ _ => by rfl⟩) ?_
  simp only [Act.put, Fl.z1, Fl.z2, Fl.z3]
  refine Fl.take (some 100) (v := .slice Aq53 x26.length cq53) rfl rfl (Or.inl ⟨by rfl, fun _ _ => by rfl⟩) ?_
  simp only [Act.put, Fl.z1, Fl.z2, Fl.z3]
  refine Fl.take (some 101) (v := .bool x27) rfl rfl (Or.inl ⟨by rfl, fun _ _ => by rfl⟩) ?_
  simp only [Act.put, Fl.z1, Fl.z2, Fl.z3]
  refine Fl.take (some 15) (v := .slice Aq53 x26.length cq53) rfl rfl (Or.inl ⟨by rfl, fun _ _ => by rfl⟩) ?_
  simp only [Act.put, Fl.z1, Fl.z2, Fl.z3]
  refine Fl.take (some 16) (v := .bool x27) rfl rfl (Or.inl ⟨by rfl, fun _ _ => by rfl⟩) ?_
  simp only [Act.put, Fl.z1, Fl.z2, Fl.z3]
  refine Fl.stop (fun W hi => ?_)
  replace HI := Lib.hid hi
  clear hi
  try clear hn_
  go_upto_region 32 with (fail)
  refine Fl.startL [.take 0, .take 1, .one 2, .take 3, .take 4, .take 5, .take 6, .take 7, .take 8] (by decide) HI.out ?_
  refine Fl.take (some 102) (v := .slice Aq53 x26.length cq53) rfl rfl (Or.inl ⟨by rfl, fun _ _ => by rfl⟩) ?_
  simp only [Act.put, Fl.z1, Fl.z2, Fl.z3]
  refine Fl.take (some 103) (v := .slice Aq21 x18.length cq21) rfl rfl (Or.inl ⟨by rfl, fun _ _ => by rfl⟩) ?_
  simp only [Act.put, Fl.z1, Fl.z2, Fl.z3]
  refine Fl.call (some 104) Try.func12 (by kernel_rfl) rfl #[.slice Aq53 x26.length cq53, .slice Aq21 x18.length cq21] rfl rfl rfl (by rfl) rfl (fun E W hE hi => ?_)
  refine (laws_eqIntS.calls k _ _ x26 _ _ x18 true W ((hE _ (Fl.inv_drop hi)).cR 0 rfl) ((hE _ (Fl.inv_drop hi)).lR 0 rfl) ((hE _ (Fl.inv_drop hi)).cV 12 rfl) ((hE _ (Fl.inv_drop hi)).lV 12 rfl) HA31.out).mono ?_
  rintro e W' ⟨rfl, hb⟩
  refine Fl.keep hi hb.below ?_
  clear hi hb hE
  simp only [Act.put, Fl.z1, Fl.z2, Fl.z3]
  refine Fl.take (some 105) (v := .bool false) rfl rfl (Or.inl ⟨by rfl, fun _ _ => by rfl⟩) ?_
  simp only [Act.put, Fl.z1, Fl.z2, Fl.z3]
  refine Fl.take (some 106) (v := .bool false) rfl rfl (Or.inl ⟨by rfl, fun _ _ => by rfl⟩) ?_
  simp only [Act.put, Fl.z1, Fl.z2, Fl.z3]
  refine Fl.take (some 107) (v := .bool x27) rfl rfl (Or.inl ⟨by rfl, fun _ _ => by rfl⟩) ?_
  simp only [Act.put, Fl.z1, Fl.z2, Fl.z3]
  refine Fl.take (some 108) (v := .bool x27) rfl rfl (Or.inl ⟨by rfl, fun _ _ => by rfl⟩) ?_
  simp only [Act.put, Fl.z1, Fl.z2, Fl.z3]
  refine Fl.take (some 109) (v := .bool false) rfl rfl (Or.inl ⟨by rfl, fun _ _ => by go_simp⟩) ?_
  simp only [Act.put, Fl.z1, Fl.z2, Fl.z3]
  refine Fl.take (some 110) (v := .bool false) rfl rfl (Or.inl ⟨by rfl, fun _ _ => by rfl⟩) ?_
  simp only [Act.put, Fl.z1, Fl.z2, Fl.z3]
  refine Fl.stop (fun W hi => ?_)
  replace HI := Lib.hid hi
  clear hi
  try clear hn_
  go_upto_region 35 with (fail)
  refine Fl.startL [.take 0, .take 1, .one 2, .take 3] (by decide) HI.out ?_
  refine Fl.take (some 111) (v := .slice Aq29 x26.length cq29) rfl rfl (Or.inl ⟨by rfl, fun _ _ => by rfl⟩) ?_
  simp only [Act.put, Fl.z1, Fl.z2, Fl.z3]
  refine Fl.take (some 112) (v := .int .i64 1) rfl rfl (Or.inl ⟨by rfl, fun _ _ => by rfl⟩) ?_
  simp only [Act.put, Fl.z1, Fl.z2, Fl.z3]
  refine Fl.call (some 113) Try.func18 (by kernel_rfl) rfl #[.slice Aq29 x26.length cq29, .int .i64 1] rfl rfl rfl (by rfl) rfl (fun E W hE hi => ?_)
  have hl_ := ((hE _ (Fl.inv_drop hi)).reads 7 rfl).1
  have hc_ := laws_heldIntS.calls k _ _ x46 1 x48 W ((hE _ (Fl.inv_drop hi)).reads 7 rfl).2.2 (hl_ ▸ ((hE _ (Fl.inv_drop hi)).reads 7 rfl).2.1) HA49.out
  rw [← hl_] at hc_
  refine hc_.mono ?_
  clear hc_ hl_
  rintro e W' ⟨rfl, hb⟩
  refine Fl.keep hi hb.below ?_
  clear hi hb hE
  simp only [Act.put, Fl.z1, Fl.z2, Fl.z3]
  refine Fl.take (some 14) (v := .int .i64 x48) rfl rfl (Or.inl ⟨by rfl, fun _ _ => by rfl⟩) ?_
  simp only [Act.put, Fl.z1, Fl.z2, Fl.z3]
  refine Fl.stop (fun W hi => ?_)
  replace HI := Lib.hid hi
  clear hi
  try clear hn_
  have hn_ := decide_eq_false HNx48.out
  go_wp2
  go_ret
  exact ⟨rfl, HI.out.bel⟩

end Go.Proofs.Ytkifenbcepicjab.PFnExactBestOrder
