/- What is proved here: each Go function that is named below answers, and leaves memory, as the theorem of its name says; no condition beyond those that each theorem states. Laid by this session's own program (wip/driver.py) over the kit's print. -/
import Derived.Test.YtkifenbcepicjaaPFnExactDropEntryx0
import Derived.Test.YtkifenbcepicjaaPFnExactDropEntryx1
import Derived.Test.YtkifenbcepicjaaPFnExactDropEntryx2
import Derived.Test.YtkifenbcepicjaaPFnExactDropEntryx3
import Derived.Test.YtkifenbcepicjaaPFnExactDropEntryx5
namespace Go.Proofs.Ytkifenbcepicjaa.PFnExactDropEntry
open Go.RowKit Go.Proofs.YtkifenbcepicjaaW.PrintWords Go.Proofs.YtkifenbcepicjaaW.PrintLast Go.Proofs.YtkifenbcepicjaaW.PrintMore
attribute [local go_sem] max2_int min2_int max_two min_two max_three min_three max_four min_four   -- for this text's walks alone
set_option linter.unusedVariables false
set_option linter.unusedSimpArgs false

/-! ### laws_FnExactDropEntry: function 4 (by hand) -/
def laws_FnExactDropEntry.f (k : Nat) (l0_0 : List (List Int)) (l1 : (List Ky.En)) (a2 : List Int) : Option Bool := (laws_szMemory.f k l0_0 1048576).bind fun x1 => if x1 < 0 then some true else (laws_szEntryS.f l1 x1).bind fun x3 => if x3 < 0 then some true else (laws_toMemory.f k l0_0).bind fun x5 => (laws_toEntryS.f l1).bind fun x8 => (laws_toByteA16.f a2).bind fun x11 => (spec_DropEntry.f k x5 x8 x11).bind fun y_x13 => (impl_DropEntry.f k x5 x8 x11).bind fun y_x20 => (laws_eqEntryS.f (y_x20.1) (y_x13.1)).bind fun x24 => (laws_eqMemory.f k x5 x5).bind fun x27 => (laws_eqEntryS.f x8 x8).bind fun x30 => (laws_markMemory.f k x5 1).bind fun x32 => (laws_markEntryS.f x8 x32).bind fun y_x34 => (laws_markEntryS.f (y_x20.1) 1).bind fun y_x37 => (laws_heldEntryS.f (y_x37.2) 1).bind fun x40 => if x24 = true ∧ x27 = true ∧ x30 = true ∧ y_x20.2 = y_x13.2 ∧ ¬ y_x34.1 < 0 ∧ ¬ x40 < 0 ∧ x40 = y_x37.1 then some true else none
theorem laws_FnExactDropEntry.mono : ∀ l0_0 l1 a2 k, LeO (laws_FnExactDropEntry.f k l0_0 l1 a2) (laws_FnExactDropEntry.f (k + 1) l0_0 l1 a2) := by
  intro l0_0 l1 a2 k
  unfold laws_FnExactDropEntry.f
  exact LeO.bind (by apply laws_szMemory.mono) (fun _ => LeO.ite (LeO.refl _) (LeO.bind (LeO.refl _) (fun _ => LeO.ite (LeO.refl _) (LeO.bind (by apply laws_toMemory.mono) (fun _ => LeO.bind (LeO.refl _) (fun _ => LeO.bind (LeO.refl _) (fun _ => LeO.bind (by apply spec_DropEntry.mono) (fun _ => LeO.bind (by apply impl_DropEntry.mono) (fun _ => LeO.bind (LeO.refl _) (fun _ => LeO.bind (by apply laws_eqMemory.mono) (fun _ => LeO.bind (LeO.refl _) (fun _ => LeO.bind (by apply laws_markMemory.mono) (fun _ => LeO.bind (LeO.refl _) (fun _ => LeO.bind (LeO.refl _) (fun _ => LeO.bind (LeO.refl _) (fun _ => LeO.refl _))))))))))))))))
set_option maxHeartbeats 4000000 in
set_option maxRecDepth 100000 in
theorem laws_FnExactDropEntry.calls (k : Nat) (A0_0 : Option Addr) (c0_0 : Nat) (l0_0 : List (List Int)) (A1 : Option Addr) (c1 : Nat) (l1 : (List Ky.En)) (a2 : List Int) (r : Bool) (w : World) (hr0_0 : Kd.C (Kd.slice 5 (Kd.int .u8)) w A0_0 l0_0.length l0_0) (hc0_0 : l0_0.length ≤ c0_0) (hr1 : Kd.C Ky.ke w A1 l1.length l1) (hc1 : l1.length ≤ c1) (hk2 : Ky.Key a2) (h : laws_FnExactDropEntry.f k l0_0 l1 a2 = some r) :
    Calls Try.prog 4 #[.agg #[.slice A0_0 l0_0.length c0_0], .slice A1 l1.length c1, .agg (Ky.bs a2)] w fun e w' => e = .returned (.bool r) ∧ Below w.heap.size w w' := by
  have HR0_0 := Lib.hid hr0_0
  have HC0_0 := Lib.hid hc0_0
  clear hr0_0 hc0_0
  have HR1 := Lib.hid hr1
  have HC1 := Lib.hid hc1
  clear hr1 hc1
  have HKa2 := Lib.hid hk2
  clear hk2
  obtain ⟨W0, hW⟩ : ∃ W, W = ((w.alloc (.cells #[.slice A0_0 l0_0.length c0_0] 24)).alloc (.cells (Ky.bs a2) 26)) := ⟨_, rfl⟩
  have HI : Hid (Lv.Inv w W0 [Lv.boxF (w.heap.size + 1) (Ky.bs a2) 26, Lv.boxF (w.heap.size) #[.slice A0_0 l0_0.length c0_0] 24]) := by
    subst hW
    have := (((Lv.Inv.refl w).box #[.slice A0_0 l0_0.length c0_0] 24).box (Ky.bs a2) 26)
    exact Lib.hid (by simpa using this)
  unfold laws_FnExactDropEntry.f at h
  replace h := Option.bind_eq_some_iff.mp h
  obtain ⟨x1, A2, h⟩ := h
  try dsimp only at h
  have HA2 := Lib.hid A2
  clear A2
  have HH := Lib.hid h
  clear h
  go_enter Try.func4, Try.ntmps4
  go_upto_region 1 with (fail)
  rw [← hW]
  clear hW
  go_upto_region 2 with (fail)
  refine Fl.startL [.take 0, .take 1, .one 2, .take 3] (by decide) HI.out ?_
  refine Fl.take (some 19) (v := .agg #[.slice A0_0 l0_0.length c0_0]) rfl rfl (Fl.ld 1 rfl (by rfl) _ _ rfl rfl Try.underlying24 rfl (by kernel_rfl)) ?_
  simp only [Act.put, Fl.z1, Fl.z2, Fl.z3]
  refine Fl.take (some 20) (v := .int .i64 1048576) rfl rfl (Or.inl ⟨by rfl, fun _ _ => by rfl⟩) ?_
  simp only [Act.put, Fl.z1, Fl.z2, Fl.z3]
  refine Fl.call (some 21) Try.func6 (by kernel_rfl) rfl #[.agg #[.slice A0_0 l0_0.length c0_0], .int .i64 1048576] rfl rfl rfl (by rfl) rfl (fun E W hE hi => ?_)
  refine (laws_szMemory.calls k _ _ l0_0 1048576 x1 W (Kd.C_below HR0_0.out hi.bel) HC0_0.out HA2.out).mono ?_
  rintro e W' ⟨rfl, hb⟩
  refine Fl.keep hi hb ?_
  clear hi hb hE
  simp only [Act.put, Fl.z1, Fl.z2, Fl.z3]
  refine Fl.take (some 7) (v := .int .i64 x1) rfl rfl (Or.inl ⟨by rfl, fun _ _ => by rfl⟩) ?_
  simp only [Act.put, Fl.z1, Fl.z2, Fl.z3]
  refine Fl.stop (fun W hi => ?_)
  replace HI := Lib.hid hi
  clear hi
  try clear hn_
  have h := HH.out
  clear HH
  by_cases hn : x1 < 0
  · rw [if_pos hn] at h
    obtain rfl := Option.some.inj h
    clear h
    have hn_ := decide_eq_true hn
    go_wp2
    go_ret
    exact ⟨rfl, HI.out.bel⟩
  rw [if_neg hn] at h
  have hn_ := decide_eq_false hn
  clear hn
  replace h := Option.bind_eq_some_iff.mp h
  obtain ⟨x3, A4, h⟩ := h
  try dsimp only at h
  have HA4 := Lib.hid A4
  clear A4
  have HH := Lib.hid h
  clear h
  go_upto_region 5 with (fail)
  refine Fl.startL [.take 0, .take 1, .one 2, .take 3] (by decide) HI.out ?_
  refine Fl.take (some 24) (v := .slice A1 l1.length c1) rfl rfl (Or.inl ⟨by rfl, fun _ _ => by rfl⟩) ?_
  simp only [Act.put, Fl.z1, Fl.z2, Fl.z3]
  refine Fl.take (some 25) (v := .int .i64 x1) rfl rfl (Or.inl ⟨by rfl, fun _ _ => by rfl⟩) ?_
  simp only [Act.put, Fl.z1, Fl.z2, Fl.z3]
  refine Fl.call (some 26) Try.func7 (by kernel_rfl) rfl #[.slice A1 l1.length c1, .int .i64 x1] rfl rfl rfl (by rfl) rfl (fun E W hE hi => ?_)
  refine (laws_szEntryS.calls _ _ l1 x1 x3 W (Kd.C_below HR1.out hi.bel) HC1.out HA4.out).mono ?_
  rintro e W' ⟨rfl, hb⟩
  refine Fl.keep hi hb ?_
  clear hi hb hE
  simp only [Act.put, Fl.z1, Fl.z2, Fl.z3]
  refine Fl.take (some 7) (v := .int .i64 x3) rfl rfl (Or.inl ⟨by rfl, fun _ _ => by rfl⟩) ?_
  simp only [Act.put, Fl.z1, Fl.z2, Fl.z3]
  refine Fl.stop (fun W hi => ?_)
  replace HI := Lib.hid hi
  clear hi
  try clear hn_
  have h := HH.out
  clear HH
  by_cases hn : x3 < 0
  · rw [if_pos hn] at h
    obtain rfl := Option.some.inj h
    clear h
    have hn_ := decide_eq_true hn
    go_wp2
    go_ret
    exact ⟨rfl, HI.out.bel⟩
  rw [if_neg hn] at h
  have hn_ := decide_eq_false hn
  clear hn
  replace h := Option.bind_eq_some_iff.mp h
  obtain ⟨x5, A6, h⟩ := h
  try dsimp only at h
  have HA6 := Lib.hid A6
  clear A6
  replace h := Option.bind_eq_some_iff.mp h
  obtain ⟨x8, A9, h⟩ := h
  try dsimp only at h
  have HA9 := Lib.hid A9
  clear A9
  replace h := Option.bind_eq_some_iff.mp h
  obtain ⟨x11, A12, h⟩ := h
  try dsimp only at h
  have HA12 := Lib.hid A12
  clear A12
  replace h := Option.bind_eq_some_iff.mp h
  obtain ⟨⟨x13, x14⟩, A15, h⟩ := h
  try dsimp only at h
  have HA15 := Lib.hid A15
  clear A15
  replace h := Option.bind_eq_some_iff.mp h
  obtain ⟨⟨x20, x21⟩, A22, h⟩ := h
  try dsimp only at h
  have HA22 := Lib.hid A22
  clear A22
  replace h := Option.bind_eq_some_iff.mp h
  obtain ⟨x24, A25, h⟩ := h
  try dsimp only at h
  have HA25 := Lib.hid A25
  clear A25
  replace h := Option.bind_eq_some_iff.mp h
  obtain ⟨x27, A28, h⟩ := h
  try dsimp only at h
  have HA28 := Lib.hid A28
  clear A28
  replace h := Option.bind_eq_some_iff.mp h
  obtain ⟨x30, A31, h⟩ := h
  try dsimp only at h
  have HA31 := Lib.hid A31
  clear A31
  replace h := Option.bind_eq_some_iff.mp h
  obtain ⟨x32, A33, h⟩ := h
  try dsimp only at h
  have HA33 := Lib.hid A33
  clear A33
  replace h := Option.bind_eq_some_iff.mp h
  obtain ⟨⟨x34, x35⟩, A36, h⟩ := h
  try dsimp only at h
  have HA36 := Lib.hid A36
  clear A36
  replace h := Option.bind_eq_some_iff.mp h
  obtain ⟨⟨x37, x38⟩, A39, h⟩ := h
  try dsimp only at h
  have HA39 := Lib.hid A39
  clear A39
  replace h := Option.bind_eq_some_iff.mp h
  obtain ⟨x40, A41, h⟩ := h
  try dsimp only at h
  have HA41 := Lib.hid A41
  clear A41
  obtain ⟨hc, rfl⟩ := Lv.of_if h
  clear h
  obtain ⟨rfl, rfl, rfl, rfl, hnx34, hnx40, rfl⟩ := hc
  have HNx34 := Lib.hid hnx34
  clear hnx34
  have HNx40 := Lib.hid hnx40
  clear hnx40
  go_upto_region 8 with (fail)
  refine Fl.start [([],[]),([0],[0]),([],[]),([2,1],[2]),([],[]),([4,3],[4]),([1,3,5,5],[1,3,5]),([6],[6]),([7],[7]),([7],[7]),([8,6,0,1,2,3,4,5,6,7,8],[8]),([9,10,0,1,2,3,4,5,6,7,8,9,10],[9])] [] 13 [.take 0, .take 2, .take 4, .one 1, .one 3, .one 5, .one 6, .take 7, .take 8, .take 9, .take 10, .take 11] [] (by kernel_rfl) (by kernel_rfl) (by decide) (by decide) (by kernel_rfl) (by kernel_rfl) Fl.mk0 HI.out ?_
  refine Fl.take (some 30) (v := .agg #[.slice A0_0 l0_0.length c0_0]) rfl rfl (Fl.ld 1 rfl (by rfl) _ _ rfl rfl Try.underlying24 rfl (by kernel_rfl)) ?_
  simp only [Act.put, Fl.z1, Fl.z2, Fl.z3]
  refine Fl.take (some 32) (v := .slice A1 l1.length c1) rfl rfl (Or.inl ⟨by rfl, fun _ _ => by rfl⟩) ?_
  simp only [Act.put, Fl.z1, Fl.z2, Fl.z3]
  refine Fl.take (some 34) (v := .agg (Ky.bs a2)) rfl rfl (Fl.ld 0 rfl (by rfl) _ _ rfl rfl Try.underlying26 rfl (Ky.hKk HKa2.out)) ?_
  simp only [Act.put, Fl.z1, Fl.z2, Fl.z3]
  refine Fl.call (some 31) Try.func9 (by kernel_rfl) rfl #[.agg #[.slice A0_0 l0_0.length c0_0]] rfl rfl rfl (by rfl) rfl (fun E W hE hi => ?_)
  refine (laws_toMemory.calls k _ _ l0_0 x5 W (Kd.C_below HR0_0.out hi.bel) HC0_0.out HA6.out).mono ?_
  rintro e W' ⟨v, rfl, hr, hb⟩
  obtain ⟨Aq7, cq7, rfl⟩ := Kd.S_slice hr
  refine Fl.addS hi (Kd.S_mono hr (fun _ _ => trivial)) hb ?_
  clear hr
  clear hi hb hE
  simp only [Act.put, Fl.z1, Fl.z2, Fl.z3]
  refine Fl.call (some 33) Try.func10 (by kernel_rfl) rfl #[.slice A1 l1.length c1] rfl rfl rfl (by rfl) rfl (fun E W hE hi => ?_)
  refine (laws_toEntryS.calls _ _ l1 x8 W (Kd.C_below HR1.out hi.bel) HC1.out HA9.out).mono ?_
  rintro e W' ⟨v, rfl, hr, hb⟩
  obtain ⟨Aq10, cq10, rfl⟩ := Kd.R_slice hr
  refine Fl.addR hi (Kd.R_mono hr (fun _ _ => trivial)) hb ?_
  clear hr
  clear hi hb hE
  simp only [Act.put, Fl.z1, Fl.z2, Fl.z3]
  refine Fl.call (some 35) Try.func11 (by kernel_rfl) rfl #[.agg (Ky.bs a2)] rfl rfl rfl (by rfl) rfl (fun E W hE hi => ?_)
  refine (laws_toByteA16.calls a2 x11 W HKa2.out HA12.out).mono ?_
  rintro e W' ⟨rfl, hb, hkx11⟩
  have HKx11 := Lib.hid hkx11
  clear hkx11
  refine Fl.keep hi hb ?_
  clear hi hb hE
  simp only [Act.put, Fl.z1, Fl.z2, Fl.z3]
  refine Fl.call (some 36) Try.func18 (by kernel_rfl) rfl #[.agg #[.slice Aq7 x5.length cq7], .slice Aq10 x8.length cq10, .agg (Ky.bs x11)] rfl rfl rfl (by rfl) rfl (fun E W hE hi => ?_)
  refine (spec_DropEntry.calls k _ _ x5 _ _ x8 x11 x13 x21 W (hi.cS 1 rfl) (hi.lS 1 rfl) (hi.cR 0 rfl) (hi.lR 0 rfl) HKx11.out HA15.out).mono ?_
  rintro e W' ⟨v, rfl, hr, hb⟩
  obtain ⟨Aq16, cq16, rfl⟩ := Kd.R_slice hr
  refine Fl.addR hi (Kd.R_mono hr (fun _ _ => trivial)) hb ?_
  clear hr
  clear hi hb hE
  simp only [Act.put, Fl.z1, Fl.z2, Fl.z3]
  refine Fl.take (some 29) (v := .tuple #[.slice Aq16 x13.length cq16, .bool x21]) rfl rfl (Or.inl ⟨by rfl, fun _ _ => by rfl⟩) ?_
  simp only [Act.put, Fl.z1, Fl.z2, Fl.z3]
  refine Fl.take (some 37) (v := .slice Aq16 x13.length cq16) rfl rfl (Or.inl ⟨by rfl, fun _ _ => by rfl⟩) ?_
  simp only [Act.put, Fl.z1, Fl.z2, Fl.z3]
  refine Fl.take (some 38) (v := .bool x21) rfl rfl (Or.inl ⟨by rfl, fun _ _ => by rfl⟩) ?_
  simp only [Act.put, Fl.z1, Fl.z2, Fl.z3]
  refine Fl.take (some 8) (v := .slice Aq16 x13.length cq16) rfl rfl (Or.inl ⟨by rfl, fun _ _ => by rfl⟩) ?_
  simp only [Act.put, Fl.z1, Fl.z2, Fl.z3]
  refine Fl.take (some 9) (v := .bool x21) rfl rfl (Or.inl ⟨by rfl, fun _ _ => by rfl⟩) ?_
  simp only [Act.put, Fl.z1, Fl.z2, Fl.z3]
  refine Fl.fin0 ?_
  refine Fl.stopN (fun W hi => ?_)
  replace HI := Lib.hid hi
  clear hi
  try clear hn_
  go_upto_region 9 with (fail)
  refine Fl.startL [.take 0, .one 1, .one 2, .one 3] (by decide) HI.out ?_
  refine Fl.take (some 39) (v := .agg #[.slice A0_0 l0_0.length c0_0]) rfl rfl (Fl.ld 4 rfl (by rfl) _ _ rfl rfl Try.underlying24 rfl (by kernel_rfl)) ?_
  simp only [Act.put, Fl.z1, Fl.z2, Fl.z3]
  refine Fl.call (some 40) Try.func9 (by kernel_rfl) rfl #[.agg #[.slice A0_0 l0_0.length c0_0]] rfl rfl rfl (by rfl) rfl (fun E W hE hi => ?_)
  refine (laws_toMemory.calls k _ _ l0_0 x5 W (Kd.C_below HR0_0.out hi.bel) HC0_0.out HA6.out).mono ?_
  rintro e W' ⟨v, rfl, hr, hb⟩
  obtain ⟨Aq17, cq17, rfl⟩ := Kd.S_slice hr
  refine Fl.addS hi (Kd.S_mono hr (fun _ _ => trivial)) hb ?_
  clear hr
  clear hi hb hE
  simp only [Act.put, Fl.z1, Fl.z2, Fl.z3]
  refine Fl.var (N := 10) (cs := #[.slice none 0 0]) (t := 32) ⟨_, rfl, rfl, fun _ => rfl, fun e w => by go_simp⟩ (fun b18 => ?_)
  simp only [Act.put, Fl.z1, Fl.z2, Fl.z3]
  refine Fl.store 0 #[.slice Aq17 x5.length cq17] rfl rfl rfl rfl _ _ _ rfl rfl rfl (by rfl) rfl (by kernel_rfl) (by simp [Value.oneCell']) ?_
  refine Fl.stop (fun W hi => ?_)
  replace HI := Lib.hid hi
  clear hi
  try clear hn_
  go_upto_region 10 with (fail)
  refine Fl.startL [.take 0, .one 1, .take 2] (by decide) HI.out ?_
  refine Fl.take (some 41) (v := .slice A1 l1.length c1) rfl rfl (Or.inl ⟨by rfl, fun _ _ => by rfl⟩) ?_
  simp only [Act.put, Fl.z1, Fl.z2, Fl.z3]
  refine Fl.call (some 42) Try.func10 (by kernel_rfl) rfl #[.slice A1 l1.length c1] rfl rfl rfl (by rfl) rfl (fun E W hE hi => ?_)
  refine (laws_toEntryS.calls _ _ l1 x8 W (Kd.C_below HR1.out hi.bel) HC1.out HA9.out).mono ?_
  rintro e W' ⟨v, rfl, hr, hb⟩
  obtain ⟨Aq19, cq19, rfl⟩ := Kd.R_slice hr
  refine Fl.addR hi (Kd.R_mono hr (fun _ _ => trivial)) hb ?_
  clear hr
  clear hi hb hE
  simp only [Act.put, Fl.z1, Fl.z2, Fl.z3]
  refine Fl.take (some 11) (v := .slice Aq19 x8.length cq19) rfl rfl (Or.inl ⟨by rfl, fun _ _ => by rfl⟩) ?_
  simp only [Act.put, Fl.z1, Fl.z2, Fl.z3]
  refine Fl.stop (fun W hi => ?_)
  replace HI := Lib.hid hi
  clear hi
  try clear hn_
  go_upto_region 11 with (fail)
  refine Fl.start [([],[]),([],[]),([],[]),([2],[2]),([0,1,3,3],[0,1,3]),([4],[4]),([5],[5]),([5],[5]),([6,4,0,1,2,3,4,5,6],[6]),([7,8,0,1,2,3,4,5,6,7,8],[7])] [] 11 [.take 0, .take 1, .take 2, .one 3, .one 4, .take 5, .take 6, .take 7, .take 8, .take 9] [] (by kernel_rfl) (by kernel_rfl) (by decide) (by decide) (by kernel_rfl) (by kernel_rfl) Fl.mk0 HI.out ?_
  refine Fl.take (some 44) (v := .agg #[.slice Aq17 x5.length cq17]) rfl rfl (Fl.ld 1 rfl (by rfl) _ _ rfl rfl Try.underlying32 rfl (by kernel_rfl)) ?_
  simp only [Act.put, Fl.z1, Fl.z2, Fl.z3]
  refine Fl.take (some 45) (v := .slice Aq19 x8.length cq19) rfl rfl (Or.inl ⟨by rfl, fun _ _ => by rfl⟩) ?_
  simp only [Act.put, Fl.z1, Fl.z2, Fl.z3]
  refine Fl.take (some 46) (v := .agg (Ky.bs a2)) rfl rfl (Fl.ld 6 rfl (by rfl) _ _ rfl rfl Try.underlying26 rfl (Ky.hKk HKa2.out)) ?_
  simp only [Act.put, Fl.z1, Fl.z2, Fl.z3]
  refine Fl.call (some 47) Try.func11 (by kernel_rfl) rfl #[.agg (Ky.bs a2)] rfl rfl rfl (by rfl) rfl (fun E W hE hi => ?_)
  refine (laws_toByteA16.calls a2 x11 W HKa2.out HA12.out).mono ?_
  rintro e W' ⟨rfl, hb, hkx11⟩
  have HKx11 := Lib.hid hkx11
  clear hkx11
  refine Fl.keep hi hb ?_
  clear hi hb hE
  simp only [Act.put, Fl.z1, Fl.z2, Fl.z3]
  refine Fl.call (some 48) Try.func19 (by kernel_rfl) rfl #[.agg #[.slice Aq17 x5.length cq17], .slice Aq19 x8.length cq19, .agg (Ky.bs x11)] rfl rfl rfl (by rfl) rfl (fun E W hE hi => ?_)
  refine (impl_DropEntry.calls k _ _ x5 _ _ x8 x11 x20 x21 W ((hE _ (Fl.inv_drop hi)).cS 2 rfl) ((hE _ (Fl.inv_drop hi)).lS 2 rfl) ((hE _ (Fl.inv_drop hi)).cR 0 rfl) ((hE _ (Fl.inv_drop hi)).lR 0 rfl) HKx11.out HA22.out).mono ?_
  rintro e W' ⟨v, rfl, hr, hb⟩
  obtain ⟨Aq23, cq23, rfl⟩ := Kd.R_slice hr
  refine Fl.addR hi (Kd.R_mono hr (fun _ _ => trivial)) hb ?_
  clear hr
  clear hi hb hE
  simp only [Act.put, Fl.z1, Fl.z2, Fl.z3]
  refine Fl.take (some 43) (v := .tuple #[.slice Aq23 x20.length cq23, .bool x21]) rfl rfl (Or.inl ⟨by rfl, fun _ _ => by rfl⟩) ?_
  simp only [Act.put, Fl.z1, Fl.z2, Fl.z3]
  refine Fl.take (some 49) (v := .slice Aq23 x20.length cq23) rfl rfl (Or.inl ⟨by rfl, fun _ _ => by rfl⟩) ?_
  simp only [Act.put, Fl.z1, Fl.z2, Fl.z3]
  refine Fl.take (some 50) (v := .bool x21) rfl rfl (Or.inl ⟨by rfl, fun _ _ => by rfl⟩) ?_
  simp only [Act.put, Fl.z1, Fl.z2, Fl.z3]
  refine Fl.take (some 12) (v := .slice Aq23 x20.length cq23) rfl rfl (Or.inl ⟨by rfl, fun _ _ => by rfl⟩) ?_
  simp only [Act.put, Fl.z1, Fl.z2, Fl.z3]
  refine Fl.take (some 13) (v := .bool x21) rfl rfl (Or.inl ⟨by rfl, fun _ _ => by rfl⟩) ?_
  simp only [Act.put, Fl.z1, Fl.z2, Fl.z3]
  refine Fl.fin0 ?_
  refine Fl.stopN (fun W hi => ?_)
  replace HI := Lib.hid hi
  clear hi
  try clear hn_
  go_upto_region 12 with (fail)
  refine Fl.startL [.take 0, .take 1, .one 2, .take 3, .take 4, .take 5, .take 6, .take 7, .take 8] (by decide) HI.out ?_
  refine Fl.take (some 51) (v := .slice Aq23 x20.length cq23) rfl rfl (Or.inl ⟨by rfl, fun _ _ => by rfl⟩) ?_
  simp only [Act.put, Fl.z1, Fl.z2, Fl.z3]
  refine Fl.take (some 52) (v := .slice Aq16 x13.length cq16) rfl rfl (Or.inl ⟨by rfl, fun _ _ => by rfl⟩) ?_
  simp only [Act.put, Fl.z1, Fl.z2, Fl.z3]
  refine Fl.call (some 53) Try.func13 (by kernel_rfl) rfl #[.slice Aq23 x20.length cq23, .slice Aq16 x13.length cq16] rfl rfl rfl (by rfl) rfl (fun E W hE hi => ?_)
  refine (laws_eqEntryS.calls _ _ x20 _ _ x13 true W ((hE _ (Fl.inv_drop hi)).cR 0 rfl) ((hE _ (Fl.inv_drop hi)).lR 0 rfl) ((hE _ (Fl.inv_drop hi)).cR 4 rfl) ((hE _ (Fl.inv_drop hi)).lR 4 rfl) HA25.out).mono ?_
  rintro e W' ⟨rfl, hb⟩
  refine Fl.keep hi hb ?_
  clear hi hb hE
  simp only [Act.put, Fl.z1, Fl.z2, Fl.z3]
  refine Fl.take (some 54) (v := .bool false) rfl rfl (Or.inl ⟨by rfl, fun _ _ => by rfl⟩) ?_
  simp only [Act.put, Fl.z1, Fl.z2, Fl.z3]
  refine Fl.take (some 55) (v := .bool false) rfl rfl (Or.inl ⟨by rfl, fun _ _ => by rfl⟩) ?_
  simp only [Act.put, Fl.z1, Fl.z2, Fl.z3]
  refine Fl.take (some 56) (v := .bool x21) rfl rfl (Or.inl ⟨by rfl, fun _ _ => by rfl⟩) ?_
  simp only [Act.put, Fl.z1, Fl.z2, Fl.z3]
  refine Fl.take (some 57) (v := .bool x21) rfl rfl (Or.inl ⟨by rfl, fun _ _ => by rfl⟩) ?_
  simp only [Act.put, Fl.z1, Fl.z2, Fl.z3]
  refine Fl.take (some 58) (v := .bool false) rfl rfl (Or.inl ⟨by rfl, fun _ _ => by go_simp⟩) ?_
  simp only [Act.put, Fl.z1, Fl.z2, Fl.z3]
  refine Fl.take (some 59) (v := .bool false) rfl rfl (Or.inl ⟨by rfl, fun _ _ => by rfl⟩) ?_
  simp only [Act.put, Fl.z1, Fl.z2, Fl.z3]
  refine Fl.stop (fun W hi => ?_)
  replace HI := Lib.hid hi
  clear hi
  try clear hn_
  go_upto_region 14 with (fail)
  refine Fl.start [([],[]),([],[]),([1],[1]),([0,2,2],[0,2]),([3],[3])] [] 6 [.take 0, .take 1, .one 2, .one 3, .take 4] [] (by kernel_rfl) (by kernel_rfl) (by decide) (by decide) (by kernel_rfl) (by kernel_rfl) Fl.mk0 HI.out ?_
  refine Fl.take (some 60) (v := .agg #[.slice Aq17 x5.length cq17]) rfl rfl (Fl.ld 2 rfl (by rfl) _ _ rfl rfl Try.underlying32 rfl (by kernel_rfl)) ?_
  simp only [Act.put, Fl.z1, Fl.z2, Fl.z3]
  refine Fl.take (some 61) (v := .agg #[.slice A0_0 l0_0.length c0_0]) rfl rfl (Fl.ld 8 rfl (by rfl) _ _ rfl rfl Try.underlying24 rfl (by kernel_rfl)) ?_
  simp only [Act.put, Fl.z1, Fl.z2, Fl.z3]
  refine Fl.call (some 62) Try.func9 (by kernel_rfl) rfl #[.agg #[.slice A0_0 l0_0.length c0_0]] rfl rfl rfl (by rfl) rfl (fun E W hE hi => ?_)
  refine (laws_toMemory.calls k _ _ l0_0 x5 W (Kd.C_below HR0_0.out hi.bel) HC0_0.out HA6.out).mono ?_
  rintro e W' ⟨v, rfl, hr, hb⟩
  obtain ⟨Aq26, cq26, rfl⟩ := Kd.S_slice hr
  refine Fl.addS hi (Kd.S_mono hr (fun _ _ => trivial)) hb ?_
  clear hr
  clear hi hb hE
  simp only [Act.put, Fl.z1, Fl.z2, Fl.z3]
  refine Fl.call (some 63) Try.func14 (by kernel_rfl) rfl #[.agg #[.slice Aq17 x5.length cq17], .agg #[.slice Aq26 x5.length cq26]] rfl rfl rfl (by rfl) rfl (fun E W hE hi => ?_)
  refine (laws_eqMemory.calls k _ _ x5 _ _ x5 true W ((hE _ (Fl.inv_drop hi)).cS 3 rfl) ((hE _ (Fl.inv_drop hi)).lS 3 rfl) (hi.cS 0 rfl) (hi.lS 0 rfl) HA28.out).mono ?_
  rintro e W' ⟨rfl, hb⟩
  refine Fl.keep hi hb ?_
  clear hi hb hE
  simp only [Act.put, Fl.z1, Fl.z2, Fl.z3]
  refine Fl.take (some 64) (v := .bool false) rfl rfl (Or.inl ⟨by rfl, fun _ _ => by rfl⟩) ?_
  simp only [Act.put, Fl.z1, Fl.z2, Fl.z3]
  refine Fl.fin0 ?_
  refine Fl.stopN (fun W hi => ?_)
  replace HI := Lib.hid hi
  clear hi
  try clear hn_
  go_upto_region 16 with (fail)
  refine Fl.startL [.take 0, .take 1, .one 2, .one 3, .take 4] (by decide) HI.out ?_
  refine Fl.take (some 65) (v := .slice Aq19 x8.length cq19) rfl rfl (Or.inl ⟨by rfl, fun _ _ => by rfl⟩) ?_
  simp only [Act.put, Fl.z1, Fl.z2, Fl.z3]
  refine Fl.take (some 66) (v := .slice A1 l1.length c1) rfl rfl (Or.inl ⟨by rfl, fun _ _ => by rfl⟩) ?_
  simp only [Act.put, Fl.z1, Fl.z2, Fl.z3]
  refine Fl.call (some 67) Try.func10 (by kernel_rfl) rfl #[.slice A1 l1.length c1] rfl rfl rfl (by rfl) rfl (fun E W hE hi => ?_)
  refine (laws_toEntryS.calls _ _ l1 x8 W (Kd.C_below HR1.out hi.bel) HC1.out HA9.out).mono ?_
  rintro e W' ⟨v, rfl, hr, hb⟩
  obtain ⟨Aq29, cq29, rfl⟩ := Kd.R_slice hr
  refine Fl.addR hi (Kd.R_mono hr (fun _ _ => trivial)) hb ?_
  clear hr
  clear hi hb hE
  simp only [Act.put, Fl.z1, Fl.z2, Fl.z3]
  refine Fl.call (some 68) Try.func13 (by kernel_rfl) rfl #[.slice Aq19 x8.length cq19, .slice Aq29 x8.length cq29] rfl rfl rfl (by rfl) rfl (fun E W hE hi => ?_)
  refine (laws_eqEntryS.calls _ _ x8 _ _ x8 true W ((hE _ (Fl.inv_drop hi)).cR 2 rfl) ((hE _ (Fl.inv_drop hi)).lR 2 rfl) (hi.cR 0 rfl) (hi.lR 0 rfl) HA31.out).mono ?_
  rintro e W' ⟨rfl, hb⟩
  refine Fl.keep hi hb ?_
  clear hi hb hE
  simp only [Act.put, Fl.z1, Fl.z2, Fl.z3]
  refine Fl.take (some 69) (v := .bool false) rfl rfl (Or.inl ⟨by rfl, fun _ _ => by rfl⟩) ?_
  simp only [Act.put, Fl.z1, Fl.z2, Fl.z3]
  refine Fl.stop (fun W hi => ?_)
  replace HI := Lib.hid hi
  clear hi
  try clear hn_
  go_upto_region 19 with (fail)
  refine Fl.startW [.one 0, .take 1, .one 2, .take 3] (by decide) HI.out ?_
  refine Fl.ldF (some 70) 4 rfl rfl rfl (by rfl) _ _ rfl rfl Try.underlying32 rfl (by kernel_rfl) ?_
  simp only [Act.put, Fl.z1, Fl.z2, Fl.z3]
  refine Fl.take (some 71) (v := .int .i64 1) rfl rfl (Or.inl ⟨by rfl, fun _ _ => by rfl⟩) ?_
  simp only [Act.put, Fl.z1, Fl.z2, Fl.z3]
  refine Fl.call (some 72) Try.func15 (by kernel_rfl) rfl #[.agg #[.slice Aq17 x5.length cq17], .int .i64 1] rfl rfl rfl (by rfl) rfl (fun E W hE hi => ?_)
  refine Fl.markS 5 rfl hi (fun S hS => laws_markMemory.calls k S _ _ _ _ _ _ hi.bel hS HA33.out) ?_
  clear hi hE
  simp only [Act.put, Fl.z1, Fl.z2, Fl.z3]
  refine Fl.take (some 14) (v := .int .i64 x32) rfl rfl (Or.inl ⟨by rfl, fun _ _ => by rfl⟩) ?_
  simp only [Act.put, Fl.z1, Fl.z2, Fl.z3]
  refine Fl.stopW (fun W hi => ?_)
  replace HI := Lib.hid hi
  clear hi
  try clear hn_
  go_upto_region 20 with (fail)
  refine Fl.startW [.take 0, .take 1, .one 2, .take 3] (by decide) HI.out ?_
  refine Fl.take (some 73) (v := .slice Aq19 x8.length cq19) rfl rfl (Or.inl ⟨by rfl, fun _ _ => by rfl⟩) ?_
  simp only [Act.put, Fl.z1, Fl.z2, Fl.z3]
  refine Fl.take (some 74) (v := .int .i64 x32) rfl rfl (Or.inl ⟨by rfl, fun _ _ => by rfl⟩) ?_
  simp only [Act.put, Fl.z1, Fl.z2, Fl.z3]
  refine Fl.call (some 75) Try.func16 (by kernel_rfl) rfl #[.slice Aq19 x8.length cq19, .int .i64 x32] rfl rfl rfl (by rfl) rfl (fun E W hE hi => ?_)
  refine Fl.markR 3 rfl hi rfl (fun S hS => laws_markEntryS.calls S _ _ _ _ _ _ _ hi.bel hS HA36.out) ?_
  clear hi hE
  simp only [Act.put, Fl.z1, Fl.z2, Fl.z3]
  refine Fl.take (some 14) (v := .int .i64 x34) rfl rfl (Or.inl ⟨by rfl, fun _ _ => by rfl⟩) ?_
  simp only [Act.put, Fl.z1, Fl.z2, Fl.z3]
  refine Fl.stopW (fun W hi => ?_)
  replace HI := Lib.hid hi
  clear hi
  try clear hn_
  go_upto_region 21 with (fail)
  refine Fl.startL [.take 0, .take 1, .take 2, .take 3, .take 4, .one 5, .take 6, .take 7, .take 8, .take 9, .take 10, .take 11, .take 12] (by decide) HI.out ?_
  refine Fl.take (some 76) (v := .int .i64 x34) rfl rfl (Or.inl ⟨by rfl, fun _ _ => by rfl⟩) ?_
  simp only [Act.put, Fl.z1, Fl.z2, Fl.z3]
  refine Fl.take (some 77) (v := .bool false) rfl rfl (Or.inl ⟨by rfl, fun _ _ => by have h_ := decide_eq_false HNx34.out; go_simp⟩) ?_
  simp only [Act.put, Fl.z1, Fl.z2, Fl.z3]
  refine Fl.take (some 78) (v := .bool false) rfl rfl (Or.inl ⟨by rfl, fun _ _ => by rfl⟩) ?_
  simp only [Act.put, Fl.z1, Fl.z2, Fl.z3]
  refine Fl.take (some 79) (v := .slice Aq23 x20.length cq23) rfl rfl (Or.inl ⟨by rfl, fun _ _ => by rfl⟩) ?_
  simp only [Act.put, Fl.z1, Fl.z2, Fl.z3]
  refine Fl.take (some 80) (v := .slice Aq16 x13.length cq16) rfl rfl (Or.inl ⟨by rfl, fun _ _ => by rfl⟩) ?_
  simp only [Act.put, Fl.z1, Fl.z2, Fl.z3]
  refine Fl.call (some 81) Try.func13 (by kernel_rfl) rfl #[.slice Aq23 x20.length cq23, .slice Aq16 x13.length cq16] rfl rfl rfl (by rfl) rfl (fun E W hE hi => ?_)
  refine (laws_eqEntryS.calls _ _ x20 _ _ x13 true W ((hE _ (Fl.inv_drop hi)).cR 2 rfl) ((hE _ (Fl.inv_drop hi)).lR 2 rfl) ((hE _ (Fl.inv_drop hi)).cR 6 rfl) ((hE _ (Fl.inv_drop hi)).lR 6 rfl) HA25.out).mono ?_
  rintro e W' ⟨rfl, hb⟩
  refine Fl.keep hi hb ?_
  clear hi hb hE
  simp only [Act.put, Fl.z1, Fl.z2, Fl.z3]
  refine Fl.take (some 82) (v := .bool false) rfl rfl (Or.inl ⟨by rfl, fun _ _ => by rfl⟩) ?_
  simp only [Act.put, Fl.z1, Fl.z2, Fl.z3]
  refine Fl.take (some 83) (v := .bool false) rfl rfl (Or.inl ⟨by rfl, fun _ _ => by rfl⟩) ?_
  simp only [Act.put, Fl.z1, Fl.z2, Fl.z3]
  refine Fl.take (some 84) (v := .bool false) rfl rfl (Or.inl ⟨by rfl, fun _ _ => by rfl⟩) ?_
  simp only [Act.put, Fl.z1, Fl.z2, Fl.z3]
  refine Fl.take (some 85) (v := .bool x21) rfl rfl (Or.inl ⟨by rfl, fun _ _ => by rfl⟩) ?_
  simp only [Act.put, Fl.z1, Fl.z2, Fl.z3]
  refine Fl.take (some 86) (v := .bool x21) rfl rfl (Or.inl ⟨by rfl, fun _ _ => by rfl⟩) ?_
  simp only [Act.put, Fl.z1, Fl.z2, Fl.z3]
  refine Fl.take (some 87) (v := .bool false) rfl rfl (Or.inl ⟨by rfl, fun _ _ => by go_simp⟩) ?_
  simp only [Act.put, Fl.z1, Fl.z2, Fl.z3]
  refine Fl.take (some 88) (v := .bool false) rfl rfl (Or.inl ⟨by rfl, fun _ _ => by rfl⟩) ?_
  simp only [Act.put, Fl.z1, Fl.z2, Fl.z3]
  refine Fl.stop (fun W hi => ?_)
  replace HI := Lib.hid hi
  clear hi
  try clear hn_
  go_upto_region 24 with (fail)
  refine Fl.startW [.take 0, .take 1, .one 2, .take 3] (by decide) HI.out ?_
  refine Fl.take (some 89) (v := .slice Aq23 x20.length cq23) rfl rfl (Or.inl ⟨by rfl, fun _ _ => by rfl⟩) ?_
  simp only [Act.put, Fl.z1, Fl.z2, Fl.z3]
  refine Fl.take (some 90) (v := .int .i64 1) rfl rfl (Or.inl ⟨by rfl, fun _ _ => by rfl⟩) ?_
  simp only [Act.put, Fl.z1, Fl.z2, Fl.z3]
  refine Fl.call (some 91) Try.func16 (by kernel_rfl) rfl #[.slice Aq23 x20.length cq23, .int .i64 1] rfl rfl rfl (by rfl) rfl (fun E W hE hi => ?_)
  refine Fl.markR 2 rfl hi rfl (fun S hS => laws_markEntryS.calls S _ _ _ _ _ _ _ hi.bel hS HA39.out) ?_
  clear hi hE
  simp only [Act.put, Fl.z1, Fl.z2, Fl.z3]
  refine Fl.take (some 15) (v := .int .i64 x40) rfl rfl (Or.inl ⟨by rfl, fun _ _ => by rfl⟩) ?_
  simp only [Act.put, Fl.z1, Fl.z2, Fl.z3]
  refine Fl.stopW (fun W hi => ?_)
  replace HI := Lib.hid hi
  clear hi
  try clear hn_
  go_upto_region 26 with (fail)
  refine Fl.startL [.take 0, .take 1, .one 2, .take 3] (by decide) HI.out ?_
  refine Fl.take (some 92) (v := .slice Aq23 x20.length cq23) rfl rfl (Or.inl ⟨by rfl, fun _ _ => by rfl⟩) ?_
  simp only [Act.put, Fl.z1, Fl.z2, Fl.z3]
  refine Fl.take (some 93) (v := .int .i64 1) rfl rfl (Or.inl ⟨by rfl, fun _ _ => by rfl⟩) ?_
  simp only [Act.put, Fl.z1, Fl.z2, Fl.z3]
  refine Fl.call (some 94) Try.func17 (by kernel_rfl) rfl #[.slice Aq23 x20.length cq23, .int .i64 1] rfl rfl rfl (by rfl) rfl (fun E W hE hi => ?_)
  have hl_ := ((hE _ (Fl.inv_drop hi)).reads 2 rfl).1
  have hc_ := laws_heldEntryS.calls _ _ x38 1 x40 W ((hE _ (Fl.inv_drop hi)).reads 2 rfl).2.2 (hl_ ▸ ((hE _ (Fl.inv_drop hi)).reads 2 rfl).2.1) HA41.out
  rw [← hl_] at hc_
  refine hc_.mono ?_
  clear hc_ hl_
  rintro e W' ⟨rfl, hb⟩
  refine Fl.keep hi hb ?_
  clear hi hb hE
  simp only [Act.put, Fl.z1, Fl.z2, Fl.z3]
  refine Fl.take (some 16) (v := .int .i64 x40) rfl rfl (Or.inl ⟨by rfl, fun _ _ => by rfl⟩) ?_
  simp only [Act.put, Fl.z1, Fl.z2, Fl.z3]
  refine Fl.stop (fun W hi => ?_)
  replace HI := Lib.hid hi
  clear hi
  try clear hn_
  have hn_ := decide_eq_false HNx40.out
  go_upto_region 31 with (fail)
  refine Fl.start [([],[]),([0],[0]),([],[]),([2,1],[2]),([],[]),([4,3],[4]),([1,3,5,5],[1,3,5]),([6],[6]),([7],[7]),([7],[7]),([8,6,0,1,2,3,4,5,6,7,8],[8]),([9,10,0,1,2,3,4,5,6,7,8,9,10],[9])] [] 13 [.take 0, .take 2, .take 4, .one 1, .one 3, .one 5, .one 6, .take 7, .take 8, .take 9, .take 10, .take 11] [] (by kernel_rfl) (by kernel_rfl) (by decide) (by decide) (by kernel_rfl) (by kernel_rfl) Fl.mk0 HI.out ?_
  refine Fl.take (some 101) (v := .agg #[.slice A0_0 l0_0.length c0_0]) rfl rfl (Fl.ld 10 rfl (by rfl) _ _ rfl rfl Try.underlying24 rfl (by kernel_rfl)) ?_
  simp only [Act.put, Fl.z1, Fl.z2, Fl.z3]
  refine Fl.take (some 103) (v := .slice A1 l1.length c1) rfl rfl (Or.inl ⟨by rfl, fun _ _ => by rfl⟩) ?_
  simp only [Act.put, Fl.z1, Fl.z2, Fl.z3]
  refine Fl.take (some 105) (v := .agg (Ky.bs a2)) rfl rfl (Fl.ld 9 rfl (by rfl) _ _ rfl rfl Try.underlying26 rfl (Ky.hKk HKa2.out)) ?_
  simp only [Act.put, Fl.z1, Fl.z2, Fl.z3]
  refine Fl.call (some 102) Try.func9 (by kernel_rfl) rfl #[.agg #[.slice A0_0 l0_0.length c0_0]] rfl rfl rfl (by rfl) rfl (fun E W hE hi => ?_)
  refine (laws_toMemory.calls k _ _ l0_0 x5 W (Kd.C_below HR0_0.out hi.bel) HC0_0.out HA6.out).mono ?_
  rintro e W' ⟨v, rfl, hr, hb⟩
  obtain ⟨Aq42, cq42, rfl⟩ := Kd.S_slice hr
  refine Fl.addS hi (Kd.S_mono hr (fun _ _ => trivial)) hb ?_
  clear hr
  clear hi hb hE
  simp only [Act.put, Fl.z1, Fl.z2, Fl.z3]
  refine Fl.call (some 104) Try.func10 (by kernel_rfl) rfl #[.slice A1 l1.length c1] rfl rfl rfl (by rfl) rfl (fun E W hE hi => ?_)
  refine (laws_toEntryS.calls _ _ l1 x8 W (Kd.C_below HR1.out hi.bel) HC1.out HA9.out).mono ?_
  rintro e W' ⟨v, rfl, hr, hb⟩
  obtain ⟨Aq43, cq43, rfl⟩ := Kd.R_slice hr
  refine Fl.addR hi (Kd.R_mono hr (fun _ _ => trivial)) hb ?_
  clear hr
  clear hi hb hE
  simp only [Act.put, Fl.z1, Fl.z2, Fl.z3]
  refine Fl.call (some 106) Try.func11 (by kernel_rfl) rfl #[.agg (Ky.bs a2)] rfl rfl rfl (by rfl) rfl (fun E W hE hi => ?_)
  refine (laws_toByteA16.calls a2 x11 W HKa2.out HA12.out).mono ?_
  rintro e W' ⟨rfl, hb, hkx11⟩
  have HKx11 := Lib.hid hkx11
  clear hkx11
  refine Fl.keep hi hb ?_
  clear hi hb hE
  simp only [Act.put, Fl.z1, Fl.z2, Fl.z3]
  refine Fl.call (some 107) Try.func19 (by kernel_rfl) rfl #[.agg #[.slice Aq42 x5.length cq42], .slice Aq43 x8.length cq43, .agg (Ky.bs x11)] rfl rfl rfl (by rfl) rfl (fun E W hE hi => ?_)
  refine (impl_DropEntry.calls k _ _ x5 _ _ x8 x11 x20 x21 W (hi.cS 1 rfl) (hi.lS 1 rfl) (hi.cR 0 rfl) (hi.lR 0 rfl) HKx11.out HA22.out).mono ?_
  rintro e W' ⟨v, rfl, hr, hb⟩
  obtain ⟨Aq44, cq44, rfl⟩ := Kd.R_slice hr
  refine Fl.addR hi (Kd.R_mono hr (fun _ _ => trivial)) hb ?_
  clear hr
  clear hi hb hE
  simp only [Act.put, Fl.z1, Fl.z2, Fl.z3]
  refine Fl.take (some 100) (v := .tuple #[.slice Aq44 x20.length cq44, .bool x21]) rfl rfl (Or.inl ⟨by rfl, fun _ _ => by rfl⟩) ?_
  simp only [Act.put, Fl.z1, Fl.z2, Fl.z3]
  refine Fl.take (some 108) (v := .slice Aq44 x20.length cq44) rfl rfl (Or.inl ⟨by rfl, fun _ _ => by rfl⟩) ?_
  simp only [Act.put, Fl.z1, Fl.z2, Fl.z3]
  refine Fl.take (some 109) (v := .bool x21) rfl rfl (Or.inl ⟨by rfl, fun _ _ => by rfl⟩) ?_
  simp only [Act.put, Fl.z1, Fl.z2, Fl.z3]
  refine Fl.take (some 17) (v := .slice Aq44 x20.length cq44) rfl rfl (Or.inl ⟨by rfl, fun _ _ => by rfl⟩) ?_
  simp only [Act.put, Fl.z1, Fl.z2, Fl.z3]
  refine Fl.take (some 18) (v := .bool x21) rfl rfl (Or.inl ⟨by rfl, fun _ _ => by rfl⟩) ?_
  simp only [Act.put, Fl.z1, Fl.z2, Fl.z3]
  refine Fl.fin0 ?_
  refine Fl.stopN (fun W hi => ?_)
  replace HI := Lib.hid hi
  clear hi
  try clear hn_
  go_upto_region 32 with (fail)
  refine Fl.startL [.take 0, .take 1, .one 2, .take 3, .take 4, .take 5, .take 6, .take 7, .take 8] (by decide) HI.out ?_
  refine Fl.take (some 110) (v := .slice Aq44 x20.length cq44) rfl rfl (Or.inl ⟨by rfl, fun _ _ => by rfl⟩) ?_
  simp only [Act.put, Fl.z1, Fl.z2, Fl.z3]
  refine Fl.take (some 111) (v := .slice Aq16 x13.length cq16) rfl rfl (Or.inl ⟨by rfl, fun _ _ => by rfl⟩) ?_
  simp only [Act.put, Fl.z1, Fl.z2, Fl.z3]
  refine Fl.call (some 112) Try.func13 (by kernel_rfl) rfl #[.slice Aq44 x20.length cq44, .slice Aq16 x13.length cq16] rfl rfl rfl (by rfl) rfl (fun E W hE hi => ?_)
  refine (laws_eqEntryS.calls _ _ x20 _ _ x13 true W ((hE _ (Fl.inv_drop hi)).cR 0 rfl) ((hE _ (Fl.inv_drop hi)).lR 0 rfl) ((hE _ (Fl.inv_drop hi)).cR 9 rfl) ((hE _ (Fl.inv_drop hi)).lR 9 rfl) HA25.out).mono ?_
  rintro e W' ⟨rfl, hb⟩
  refine Fl.keep hi hb ?_
  clear hi hb hE
  simp only [Act.put, Fl.z1, Fl.z2, Fl.z3]
  refine Fl.take (some 113) (v := .bool false) rfl rfl (Or.inl ⟨by rfl, fun _ _ => by rfl⟩) ?_
  simp only [Act.put, Fl.z1, Fl.z2, Fl.z3]
  refine Fl.take (some 114) (v := .bool false) rfl rfl (Or.inl ⟨by rfl, fun _ _ => by rfl⟩) ?_
  simp only [Act.put, Fl.z1, Fl.z2, Fl.z3]
  refine Fl.take (some 115) (v := .bool x21) rfl rfl (Or.inl ⟨by rfl, fun _ _ => by rfl⟩) ?_
  simp only [Act.put, Fl.z1, Fl.z2, Fl.z3]
  refine Fl.take (some 116) (v := .bool x21) rfl rfl (Or.inl ⟨by rfl, fun _ _ => by rfl⟩) ?_
  simp only [Act.put, Fl.z1, Fl.z2, Fl.z3]
  refine Fl.take (some 117) (v := .bool false) rfl rfl (Or.inl ⟨by rfl, fun _ _ => by go_simp⟩) ?_
  simp only [Act.put, Fl.z1, Fl.z2, Fl.z3]
  refine Fl.take (some 118) (v := .bool false) rfl rfl (Or.inl ⟨by rfl, fun _ _ => by rfl⟩) ?_
  simp only [Act.put, Fl.z1, Fl.z2, Fl.z3]
  refine Fl.stop (fun W hi => ?_)
  replace HI := Lib.hid hi
  clear hi
  try clear hn_
  go_upto_region 35 with (fail)
  refine Fl.startL [.take 0, .take 1, .one 2, .take 3] (by decide) HI.out ?_
  refine Fl.take (some 119) (v := .slice Aq23 x20.length cq23) rfl rfl (Or.inl ⟨by rfl, fun _ _ => by rfl⟩) ?_
  simp only [Act.put, Fl.z1, Fl.z2, Fl.z3]
  refine Fl.take (some 120) (v := .int .i64 1) rfl rfl (Or.inl ⟨by rfl, fun _ _ => by rfl⟩) ?_
  simp only [Act.put, Fl.z1, Fl.z2, Fl.z3]
  refine Fl.call (some 121) Try.func17 (by kernel_rfl) rfl #[.slice Aq23 x20.length cq23, .int .i64 1] rfl rfl rfl (by rfl) rfl (fun E W hE hi => ?_)
  have hl_ := ((hE _ (Fl.inv_drop hi)).reads 5 rfl).1
  have hc_ := laws_heldEntryS.calls _ _ x38 1 x40 W ((hE _ (Fl.inv_drop hi)).reads 5 rfl).2.2 (hl_ ▸ ((hE _ (Fl.inv_drop hi)).reads 5 rfl).2.1) HA41.out
  rw [← hl_] at hc_
  refine hc_.mono ?_
  clear hc_ hl_
  rintro e W' ⟨rfl, hb⟩
  refine Fl.keep hi hb ?_
  clear hi hb hE
  simp only [Act.put, Fl.z1, Fl.z2, Fl.z3]
  refine Fl.take (some 16) (v := .int .i64 x40) rfl rfl (Or.inl ⟨by rfl, fun _ _ => by rfl⟩) ?_
  simp only [Act.put, Fl.z1, Fl.z2, Fl.z3]
  refine Fl.stop (fun W hi => ?_)
  replace HI := Lib.hid hi
  clear hi
  try clear hn_
  have hn_ := decide_eq_false HNx40.out
  go_wp2
  go_ret
  exact ⟨rfl, HI.out.bel⟩

end Go.Proofs.Ytkifenbcepicjaa.PFnExactDropEntry
