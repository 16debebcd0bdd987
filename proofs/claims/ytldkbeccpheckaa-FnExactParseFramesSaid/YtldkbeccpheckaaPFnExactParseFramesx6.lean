/- What is proved here: each Go function that is named below answers, and leaves memory, as the theorem of its name says; no condition beyond those that each theorem states. Laid by this session's own program (wip/driver.py) over the kit's print. -/
import Derived.Test.YtldkbeccpheckaaPFnExactParseFramesx0
import Derived.Test.YtldkbeccpheckaaPFnExactParseFramesx1
import Derived.Test.YtldkbeccpheckaaPFnExactParseFramesx3
import Derived.Test.YtldkbeccpheckaaPFnExactParseFramesx5
namespace Go.Proofs.Ytldkbeccpheckaa.PFnExactParseFrames
open Go.RowKit Go.Proofs.YtldkbeccpheckaaW.PrintWords Go.Proofs.YtldkbeccpheckaaW.PrintLast Go.Proofs.YtldkbeccpheckaaW.PrintMore
attribute [local go_sem] max2_int min2_int max_two min_two max_three min_three max_four min_four   -- for this text's walks alone
set_option linter.unusedVariables false
set_option linter.unusedSimpArgs false

/-! ### laws_FnExactParseFrames: function 9 (by hand) -/
def laws_FnExactParseFrames.f (k : Nat) (l0_0 : List (List Int)) (a1_0 : Int) (a1_1 : Int) (a1_2 : Int) (a1_3 : Int) : Option Bool := (laws_szMemory.f k l0_0 1048576).bind fun x1 => if x1 < 0 then some true else (laws_toMemory.f k l0_0).bind fun x3 => (laws_toWindow.f a1_0 a1_1 a1_2 a1_3).bind fun y_x6 => (spec_ParseFrames.f k x3 (y_x6.1) (y_x6.2.1) (y_x6.2.2.1) (y_x6.2.2.2)).bind fun y_x11 => (impl_ParseFrames.f k x3 (y_x6.1) (y_x6.2.1) (y_x6.2.2.1) (y_x6.2.2.2)).bind fun y_x18 => (laws_eqWindowS.f k (y_x18.1) (y_x11.1)).bind fun x23 => (laws_eqMemory.f k x3 x3).bind fun x26 => (laws_markMemory.f k x3 1).bind fun x28 => (laws_markWindowS.f k (y_x18.1) 1).bind fun y_x30 => (laws_heldWindowS.f k (y_x30.2) 1).bind fun x33 => if x23 = true ∧ x26 = true ∧ y_x18.2.1 = y_x11.2.1 ∧ y_x18.2.2 = y_x11.2.2 ∧ ¬ x28 < 0 ∧ ¬ x33 < 0 ∧ x33 = y_x30.1 then some true else none
theorem laws_FnExactParseFrames.mono : ∀ l0_0 a1_0 a1_1 a1_2 a1_3 k, LeO (laws_FnExactParseFrames.f k l0_0 a1_0 a1_1 a1_2 a1_3) (laws_FnExactParseFrames.f (k + 1) l0_0 a1_0 a1_1 a1_2 a1_3) := by
  intro l0_0 a1_0 a1_1 a1_2 a1_3 k
  unfold laws_FnExactParseFrames.f
  exact LeO.bind (by apply laws_szMemory.mono) (fun _ => LeO.ite (LeO.refl _) (LeO.bind (by apply laws_toMemory.mono) (fun _ => LeO.bind (LeO.refl _) (fun _ => LeO.bind (by apply spec_ParseFrames.mono) (fun _ => LeO.bind (by apply impl_ParseFrames.mono) (fun _ => LeO.bind (by apply laws_eqWindowS.mono) (fun _ => LeO.bind (by apply laws_eqMemory.mono) (fun _ => LeO.bind (by apply laws_markMemory.mono) (fun _ => LeO.bind (by apply laws_markWindowS.mono) (fun _ => LeO.bind (by apply laws_heldWindowS.mono) (fun _ => LeO.refl _)))))))))))
set_option maxHeartbeats 4000000 in
set_option maxRecDepth 100000 in
theorem laws_FnExactParseFrames.calls (k : Nat) (A0_0 : Option Addr) (c0_0 : Nat) (l0_0 : List (List Int)) (a1_0 : Int) (a1_1 : Int) (a1_2 : Int) (a1_3 : Int) (r : Bool) (w : World) (hr0_0 : Kd.C (Kd.slice 5 (Kd.int .u8)) w A0_0 l0_0.length l0_0) (hc0_0 : l0_0.length ≤ c0_0) (h : laws_FnExactParseFrames.f k l0_0 a1_0 a1_1 a1_2 a1_3 = some r) :
    Calls Try.prog 9 #[.agg #[.slice A0_0 l0_0.length c0_0], .agg #[.int .i64 a1_0, .int .i64 a1_1, .int .i64 a1_2, .int .i64 a1_3]] w fun e w' => e = .returned (.bool r) ∧ Below w.heap.size w w' := by
  have HR0_0 := Lib.hid hr0_0
  have HC0_0 := Lib.hid hc0_0
  clear hr0_0 hc0_0
  obtain ⟨W0, hW⟩ : ∃ W, W = ((w.alloc (.cells #[.slice A0_0 l0_0.length c0_0] 24)).alloc (.cells #[.int .i64 a1_0, .int .i64 a1_1, .int .i64 a1_2, .int .i64 a1_3] 26)) := ⟨_, rfl⟩
  have HI : Hid (Lv.Inv w W0 [Lv.boxF (w.heap.size + 1) #[.int .i64 a1_0, .int .i64 a1_1, .int .i64 a1_2, .int .i64 a1_3] 26, Lv.boxF (w.heap.size) #[.slice A0_0 l0_0.length c0_0] 24]) := by
    subst hW
    have := (((Lv.Inv.refl w).box #[.slice A0_0 l0_0.length c0_0] 24).box #[.int .i64 a1_0, .int .i64 a1_1, .int .i64 a1_2, .int .i64 a1_3] 26)
    exact Lib.hid (by simpa using this)
  unfold laws_FnExactParseFrames.f at h
  obtain ⟨x1, A2, h⟩ := Option.bind_eq_some_iff.mp h
  try dsimp only at h
  have HA2 := Lib.hid A2
  clear A2
  have HH := Lib.hid h
  clear h
  go_enter Try.func9, Try.ntmps9
  go_upto_region 1 with (fail)
  rw [← hW]
  clear hW
  go_upto_region 2 with (fail)
  refine Fl.startL [.take 0, .take 1, .one 2, .take 3] (by decide) HI.out ?_
  refine Fl.take (some 19) (v := .agg #[.slice A0_0 l0_0.length c0_0]) rfl rfl (Fl.ld 1 rfl (by rfl) _ _ rfl rfl Try.underlying24 rfl (by kernel_rfl)) ?_
  simp only [Act.put, Fl.z1, Fl.z2, Fl.z3]
  refine Fl.take (some 20) (v := .int .i64 1048576) rfl rfl (Or.inl ⟨by rfl, fun _ _ => by rfl⟩) ?_
  simp only [Act.put, Fl.z1, Fl.z2, Fl.z3]
  refine Fl.call (some 21) Try.func12 (by kernel_rfl) rfl #[.agg #[.slice A0_0 l0_0.length c0_0], .int .i64 1048576] rfl rfl rfl (by rfl) rfl (fun E W hE hi => ?_)
  refine (laws_szMemory.calls k _ _ l0_0 1048576 x1 W (Kd.C_below HR0_0.out hi.bel) HC0_0.out HA2.out).mono ?_
  rintro e W' ⟨rfl, hb⟩
  refine Fl.keep hi hb ?_
  clear hi hb hE
  simp only [Act.put, Fl.z1, Fl.z2, Fl.z3]
  refine Fl.take (some 5) (v := .int .i64 x1) rfl rfl (Or.inl ⟨by rfl, fun _ _ => by rfl⟩) ?_
  simp only [Act.put, Fl.z1, Fl.z2, Fl.z3]
  refine Fl.stop (fun W hi => ?_)
  replace HI := Lib.hid hi
  clear hi
  try clear hn_
  have h := HH.out
  clear HH
  by_cases hn : x1 < 0
  · rw [if_pos hn] at h
    obtain rfl := Option.some.inj h
    clear h
    have hn_ := decide_eq_true hn
    go_wp2
    go_ret
    exact ⟨rfl, HI.out.bel⟩
  rw [if_neg hn] at h
  have hn_ := decide_eq_false hn
  clear hn
  obtain ⟨x3, A4, h⟩ := Option.bind_eq_some_iff.mp h
  try dsimp only at h
  have HA4 := Lib.hid A4
  clear A4
  obtain ⟨⟨x6, x7, x8, x9⟩, A10, h⟩ := Option.bind_eq_some_iff.mp h
  try dsimp only at h
  have HA10 := Lib.hid A10
  clear A10
  obtain ⟨⟨x11, x12, x13⟩, A14, h⟩ := Option.bind_eq_some_iff.mp h
  try dsimp only at h
  have HA14 := Lib.hid A14
  clear A14
  obtain ⟨⟨x18, x19, x20⟩, A21, h⟩ := Option.bind_eq_some_iff.mp h
  try dsimp only at h
  have HA21 := Lib.hid A21
  clear A21
  obtain ⟨x23, A24, h⟩ := Option.bind_eq_some_iff.mp h
  try dsimp only at h
  have HA24 := Lib.hid A24
  clear A24
  obtain ⟨x26, A27, h⟩ := Option.bind_eq_some_iff.mp h
  try dsimp only at h
  have HA27 := Lib.hid A27
  clear A27
  obtain ⟨x28, A29, h⟩ := Option.bind_eq_some_iff.mp h
  try dsimp only at h
  have HA29 := Lib.hid A29
  clear A29
  obtain ⟨⟨x30, x31⟩, A32, h⟩ := Option.bind_eq_some_iff.mp h
  try dsimp only at h
  have HA32 := Lib.hid A32
  clear A32
  obtain ⟨x33, A34, h⟩ := Option.bind_eq_some_iff.mp h
  try dsimp only at h
  have HA34 := Lib.hid A34
  clear A34
  obtain ⟨hc, rfl⟩ := Lv.of_if h
  clear h
  obtain ⟨rfl, rfl, rfl, rfl, hnx28, hnx33, rfl⟩ := hc
  have HNx28 := Lib.hid hnx28
  clear hnx28
  have HNx33 := Lib.hid hnx33
  clear hnx33
  go_upto_region 5 with (fail)
  refine Fl.start [([],[]),([0],[0]),([],[]),([2,1],[2]),([1,3,3],[1,3]),([4],[4]),([5],[5]),([5],[5]),([5],[5]),([6,4,0,1,2,3,4,5,6],[6]),([7,9,0,1,2,3,4,5,6,7,9],[7]),([8,10,0,1,2,3,4,5,6,7,8,9,10],[8])] [] 13 [.take 0, .take 2, .one 1, .one 3, .one 4, .take 5, .take 6, .take 7, .take 8, .take 9, .take 10, .take 11] [] (by kernel_rfl) (by kernel_rfl) (by decide) (by decide) (by kernel_rfl) (by kernel_rfl) Fl.mk0 HI.out ?_
  refine Fl.take (some 25) (v := .agg #[.slice A0_0 l0_0.length c0_0]) rfl rfl (Fl.ld 1 rfl (by rfl) _ _ rfl rfl Try.underlying24 rfl (by kernel_rfl)) ?_
  simp only [Act.put, Fl.z1, Fl.z2, Fl.z3]
  refine Fl.take (some 27) (v := .agg #[.int .i64 a1_0, .int .i64 a1_1, .int .i64 a1_2, .int .i64 a1_3]) rfl rfl (Fl.ld 0 rfl (by rfl) _ _ rfl rfl Try.underlying26 rfl (by kernel_rfl)) ?_
  simp only [Act.put, Fl.z1, Fl.z2, Fl.z3]
  refine Fl.call (some 26) Try.func14 (by kernel_rfl) rfl #[.agg #[.slice A0_0 l0_0.length c0_0]] rfl rfl rfl (by rfl) rfl (fun E W hE hi => ?_)
  refine (laws_toMemory.calls k _ _ l0_0 x3 W (Kd.C_below HR0_0.out hi.bel) HC0_0.out HA4.out).mono ?_
  rintro e W' ⟨v, rfl, hr, hb⟩
  obtain ⟨Aq5, cq5, rfl⟩ := Kd.S_slice hr
  refine Fl.addS hi (Kd.S_mono hr (fun _ _ => trivial)) hb ?_
  clear hr
  clear hi hb hE
  simp only [Act.put, Fl.z1, Fl.z2, Fl.z3]
  refine Fl.call (some 28) Try.func15 (by kernel_rfl) rfl #[.agg #[.int .i64 a1_0, .int .i64 a1_1, .int .i64 a1_2, .int .i64 a1_3]] rfl rfl rfl (by rfl) rfl (fun E W hE hi => ?_)
  refine (laws_toWindow.calls a1_0 a1_1 a1_2 a1_3 x6 x7 x8 x9 W HA10.out).mono ?_
  rintro e W' ⟨rfl, hb⟩
  refine Fl.keep hi hb ?_
  clear hi hb hE
  simp only [Act.put, Fl.z1, Fl.z2, Fl.z3]
  refine Fl.call (some 29) Try.func40 (by kernel_rfl) rfl #[.agg #[.slice Aq5 x3.length cq5], .agg #[.int .i64 x6, .int .i64 x7, .int .i64 x8, .int .i64 x9]] rfl rfl rfl (by rfl) rfl (fun E W hE hi => ?_)
  refine (spec_ParseFrames.calls k _ _ x3 x6 x7 x8 x9 x11 x19 x20 W (hi.cS 0 rfl) (hi.lS 0 rfl) HA14.out).mono ?_
  rintro e W' ⟨v, rfl, hr, hb⟩
  obtain ⟨Aq15, cq15, rfl⟩ := Kd.R_slice hr
  refine Fl.addR hi (Kd.R_mono hr (fun _ _ => trivial)) hb ?_
  clear hr
  clear hi hb hE
  simp only [Act.put, Fl.z1, Fl.z2, Fl.z3]
  refine Fl.take (some 24) (v := .tuple #[.slice Aq15 x11.length cq15, .int .i64 x19, .bool x20]) rfl rfl (Or.inl ⟨by rfl, fun _ _ => by rfl⟩) ?_
  simp only [Act.put, Fl.z1, Fl.z2, Fl.z3]
  refine Fl.take (some 30) (v := .slice Aq15 x11.length cq15) rfl rfl (Or.inl ⟨by rfl, fun _ _ => by rfl⟩) ?_
  simp only [Act.put, Fl.z1, Fl.z2, Fl.z3]
  refine Fl.take (some 31) (v := .int .i64 x19) rfl rfl (Or.inl ⟨by rfl, fun _ _ => by rfl⟩) ?_
  simp only [Act.put, Fl.z1, Fl.z2, Fl.z3]
  refine Fl.take (some 32) (v := .bool x20) rfl rfl (Or.inl ⟨by rfl, fun _ _ => by rfl⟩) ?_
  simp only [Act.put, Fl.z1, Fl.z2, Fl.z3]
  refine Fl.take (some 6) (v := .slice Aq15 x11.length cq15) rfl rfl (Or.inl ⟨by rfl, fun _ _ => by rfl⟩) ?_
  simp only [Act.put, Fl.z1, Fl.z2, Fl.z3]
  refine Fl.take (some 7) (v := .int .i64 x19) rfl rfl (Or.inl ⟨by rfl, fun _ _ => by rfl⟩) ?_
  simp only [Act.put, Fl.z1, Fl.z2, Fl.z3]
  refine Fl.take (some 8) (v := .bool x20) rfl rfl (Or.inl ⟨by rfl, fun _ _ => by rfl⟩) ?_
  simp only [Act.put, Fl.z1, Fl.z2, Fl.z3]
  refine Fl.fin0 ?_
  refine Fl.stopN (fun W hi => ?_)
  replace HI := Lib.hid hi
  clear hi
  try clear hn_
  go_upto_region 6 with (fail)
  refine Fl.startL [.take 0, .one 1, .one 2, .one 3] (by decide) HI.out ?_
  refine Fl.take (some 33) (v := .agg #[.slice A0_0 l0_0.length c0_0]) rfl rfl (Fl.ld 3 rfl (by rfl) _ _ rfl rfl Try.underlying24 rfl (by kernel_rfl)) ?_
  simp only [Act.put, Fl.z1, Fl.z2, Fl.z3]
  refine Fl.call (some 34) Try.func14 (by kernel_rfl) rfl #[.agg #[.slice A0_0 l0_0.length c0_0]] rfl rfl rfl (by rfl) rfl (fun E W hE hi => ?_)
  refine (laws_toMemory.calls k _ _ l0_0 x3 W (Kd.C_below HR0_0.out hi.bel) HC0_0.out HA4.out).mono ?_
  rintro e W' ⟨v, rfl, hr, hb⟩
  obtain ⟨Aq16, cq16, rfl⟩ := Kd.S_slice hr
  refine Fl.addS hi (Kd.S_mono hr (fun _ _ => trivial)) hb ?_
  clear hr
  clear hi hb hE
  simp only [Act.put, Fl.z1, Fl.z2, Fl.z3]
  refine Fl.var (N := 9) (cs := #[.slice none 0 0]) (t := 31) ⟨_, rfl, rfl, fun _ => rfl, fun e w => by go_simp⟩ (fun b17 => ?_)
  simp only [Act.put, Fl.z1, Fl.z2, Fl.z3]
  refine Fl.store 0 #[.slice Aq16 x3.length cq16] rfl rfl rfl rfl _ _ _ rfl rfl rfl (by rfl) rfl (by kernel_rfl) (by simp [Value.oneCell']) ?_
  refine Fl.stop (fun W hi => ?_)
  replace HI := Lib.hid hi
  clear hi
  try clear hn_
  go_upto_region 7 with (fail)
  refine Fl.start [([],[]),([],[]),([1],[1]),([0,2,2],[0,2]),([3],[3]),([4],[4]),([4],[4]),([4],[4]),([5,3,0,1,2,3,4,5],[5]),([6,8,0,1,2,3,4,5,6,8],[6]),([7,9,0,1,2,3,4,5,6,7,8,9],[7])] [] 12 [.take 0, .take 1, .one 2, .one 3, .take 4, .take 5, .take 6, .take 7, .take 8, .take 9, .take 10] [] (by kernel_rfl) (by kernel_rfl) (by decide) (by decide) (by kernel_rfl) (by kernel_rfl) Fl.mk0 HI.out ?_
  refine Fl.take (some 36) (v := .agg #[.slice Aq16 x3.length cq16]) rfl rfl (Fl.ld 0 rfl (by rfl) _ _ rfl rfl Try.underlying31 rfl (by kernel_rfl)) ?_
  simp only [Act.put, Fl.z1, Fl.z2, Fl.z3]
  refine Fl.take (some 37) (v := .agg #[.int .i64 a1_0, .int .i64 a1_1, .int .i64 a1_2, .int .i64 a1_3]) rfl rfl (Fl.ld 4 rfl (by rfl) _ _ rfl rfl Try.underlying26 rfl (by kernel_rfl)) ?_
  simp only [Act.put, Fl.z1, Fl.z2, Fl.z3]
  refine Fl.call (some 38) Try.func15 (by kernel_rfl) rfl #[.agg #[.int .i64 a1_0, .int .i64 a1_1, .int .i64 a1_2, .int .i64 a1_3]] rfl rfl rfl (by rfl) rfl (fun E W hE hi => ?_)
  refine (laws_toWindow.calls a1_0 a1_1 a1_2 a1_3 x6 x7 x8 x9 W HA10.out).mono ?_
  rintro e W' ⟨rfl, hb⟩
  refine Fl.keep hi hb ?_
  clear hi hb hE
  simp only [Act.put, Fl.z1, Fl.z2, Fl.z3]
  refine Fl.call (some 39) Try.func41 (by kernel_rfl) rfl #[.agg #[.slice Aq16 x3.length cq16], .agg #[.int .i64 x6, .int .i64 x7, .int .i64 x8, .int .i64 x9]] rfl rfl rfl (by rfl) rfl (fun E W hE hi => ?_)
  refine (impl_ParseFrames.calls k _ _ x3 x6 x7 x8 x9 x18 x19 x20 W ((hE _ (Fl.inv_drop hi)).cS 1 rfl) ((hE _ (Fl.inv_drop hi)).lS 1 rfl) HA21.out).mono ?_
  rintro e W' ⟨v, rfl, hr, hb⟩
  obtain ⟨Aq22, cq22, rfl⟩ := Kd.R_slice hr
  refine Fl.addR hi (Kd.R_mono hr (fun _ _ => trivial)) hb ?_
  clear hr
  clear hi hb hE
  simp only [Act.put, Fl.z1, Fl.z2, Fl.z3]
  refine Fl.take (some 35) (v := .tuple #[.slice Aq22 x18.length cq22, .int .i64 x19, .bool x20]) rfl rfl (Or.inl ⟨by rfl, fun _ _ => by rfl⟩) ?_
  simp only [Act.put, Fl.z1, Fl.z2, Fl.z3]
  refine Fl.take (some 40) (v := .slice Aq22 x18.length cq22) rfl rfl (Or.inl ⟨by rfl, fun _ _ => by rfl⟩) ?_
  simp only [Act.put, Fl.z1, Fl.z2, Fl.z3]
  refine Fl.take (some 41) (v := .int .i64 x19) rfl rfl (Or.inl ⟨by rfl, fun _ _ => by rfl⟩) ?_
  simp only [Act.put, Fl.z1, Fl.z2, Fl.z3]
  refine Fl.take (some 42) (v := .bool x20) rfl rfl (Or.inl ⟨by rfl, fun _ _ => by rfl⟩) ?_
  simp only [Act.put, Fl.z1, Fl.z2, Fl.z3]
  refine Fl.take (some 10) (v := .slice Aq22 x18.length cq22) rfl rfl (Or.inl ⟨by rfl, fun _ _ => by rfl⟩) ?_
  simp only [Act.put, Fl.z1, Fl.z2, Fl.z3]
  refine Fl.take (some 11) (v := .int .i64 x19) rfl rfl (Or.inl ⟨by rfl, fun _ _ => by rfl⟩) ?_
  simp only [Act.put, Fl.z1, Fl.z2, Fl.z3]
  refine Fl.take (some 12) (v := .bool x20) rfl rfl (Or.inl ⟨by rfl, fun _ _ => by rfl⟩) ?_
  simp only [Act.put, Fl.z1, Fl.z2, Fl.z3]
  refine Fl.fin0 ?_
  refine Fl.stopN (fun W hi => ?_)
  replace HI := Lib.hid hi
  clear hi
  try clear hn_
  go_upto_region 8 with (fail)
  refine Fl.startL [.take 0, .take 1, .one 2, .take 3, .take 4, .take 5, .take 6, .take 7, .take 8, .take 9, .take 10, .take 11, .take 12, .take 13] (by decide) HI.out ?_
  refine Fl.take (some 43) (v := .slice Aq22 x18.length cq22) rfl rfl (Or.inl ⟨by rfl, fun _ _ => by rfl⟩) ?_
  simp only [Act.put, Fl.z1, Fl.z2, Fl.z3]
  refine Fl.take (some 44) (v := .slice Aq15 x11.length cq15) rfl rfl (Or.inl ⟨by rfl, fun _ _ => by rfl⟩) ?_
  simp only [Act.put, Fl.z1, Fl.z2, Fl.z3]
  refine Fl.call (some 45) Try.func42 (by kernel_rfl) rfl #[.slice Aq22 x18.length cq22, .slice Aq15 x11.length cq15] rfl rfl rfl (by rfl) rfl (fun E W hE hi => ?_)
  refine (laws_eqWindowS.calls k _ _ x18 _ _ x11 true W ((hE _ (Fl.inv_drop hi)).cR 0 rfl) ((hE _ (Fl.inv_drop hi)).lR 0 rfl) ((hE _ (Fl.inv_drop hi)).cR 3 rfl) ((hE _ (Fl.inv_drop hi)).lR 3 rfl) HA24.out).mono ?_
  rintro e W' ⟨rfl, hb⟩
  refine Fl.keep hi hb ?_
  clear hi hb hE
  simp only [Act.put, Fl.z1, Fl.z2, Fl.z3]
  refine Fl.take (some 46) (v := .bool false) rfl rfl (Or.inl ⟨by rfl, fun _ _ => by rfl⟩) ?_
  simp only [Act.put, Fl.z1, Fl.z2, Fl.z3]
  refine Fl.take (some 47) (v := .bool false) rfl rfl (Or.inl ⟨by rfl, fun _ _ => by rfl⟩) ?_
  simp only [Act.put, Fl.z1, Fl.z2, Fl.z3]
  refine Fl.take (some 48) (v := .int .i64 x19) rfl rfl (Or.inl ⟨by rfl, fun _ _ => by rfl⟩) ?_
  simp only [Act.put, Fl.z1, Fl.z2, Fl.z3]
  refine Fl.take (some 49) (v := .int .i64 x19) rfl rfl (Or.inl ⟨by rfl, fun _ _ => by rfl⟩) ?_
  simp only [Act.put, Fl.z1, Fl.z2, Fl.z3]
  refine Fl.take (some 50) (v := .bool false) rfl rfl (Or.inl ⟨by rfl, fun _ _ => by go_simp⟩) ?_
  simp only [Act.put, Fl.z1, Fl.z2, Fl.z3]
  refine Fl.take (some 51) (v := .bool false) rfl rfl (Or.inl ⟨by rfl, fun _ _ => by rfl⟩) ?_
  simp only [Act.put, Fl.z1, Fl.z2, Fl.z3]
  refine Fl.take (some 52) (v := .bool false) rfl rfl (Or.inl ⟨by rfl, fun _ _ => by rfl⟩) ?_
  simp only [Act.put, Fl.z1, Fl.z2, Fl.z3]
  refine Fl.take (some 53) (v := .bool x20) rfl rfl (Or.inl ⟨by rfl, fun _ _ => by rfl⟩) ?_
  simp only [Act.put, Fl.z1, Fl.z2, Fl.z3]
  refine Fl.take (some 54) (v := .bool x20) rfl rfl (Or.inl ⟨by rfl, fun _ _ => by rfl⟩) ?_
  simp only [Act.put, Fl.z1, Fl.z2, Fl.z3]
  refine Fl.take (some 55) (v := .bool false) rfl rfl (Or.inl ⟨by rfl, fun _ _ => by go_simp⟩) ?_
  simp only [Act.put, Fl.z1, Fl.z2, Fl.z3]
  refine Fl.take (some 56) (v := .bool false) rfl rfl (Or.inl ⟨by rfl, fun _ _ => by rfl⟩) ?_
  simp only [Act.put, Fl.z1, Fl.z2, Fl.z3]
  refine Fl.stop (fun W hi => ?_)
  replace HI := Lib.hid hi
  clear hi
  try clear hn_
  go_upto_region 10 with (fail)
  refine Fl.start [([],[]),([],[]),([1],[1]),([0,2,2],[0,2]),([3],[3])] [] 6 [.take 0, .take 1, .one 2, .one 3, .take 4] [] (by kernel_rfl) (by kernel_rfl) (by decide) (by decide) (by kernel_rfl) (by kernel_rfl) Fl.mk0 HI.out ?_
  refine Fl.take (some 57) (v := .agg #[.slice Aq16 x3.length cq16]) rfl rfl (Fl.ld 1 rfl (by rfl) _ _ rfl rfl Try.underlying31 rfl (by kernel_rfl)) ?_
  simp only [Act.put, Fl.z1, Fl.z2, Fl.z3]
  refine Fl.take (some 58) (v := .agg #[.slice A0_0 l0_0.length c0_0]) rfl rfl (Fl.ld 6 rfl (by rfl) _ _ rfl rfl Try.underlying24 rfl (by kernel_rfl)) ?_
  simp only [Act.put, Fl.z1, Fl.z2, Fl.z3]
  refine Fl.call (some 59) Try.func14 (by kernel_rfl) rfl #[.agg #[.slice A0_0 l0_0.length c0_0]] rfl rfl rfl (by rfl) rfl (fun E W hE hi => ?_)
  refine (laws_toMemory.calls k _ _ l0_0 x3 W (Kd.C_below HR0_0.out hi.bel) HC0_0.out HA4.out).mono ?_
  rintro e W' ⟨v, rfl, hr, hb⟩
  obtain ⟨Aq25, cq25, rfl⟩ := Kd.S_slice hr
  refine Fl.addS hi (Kd.S_mono hr (fun _ _ => trivial)) hb ?_
  clear hr
  clear hi hb hE
  simp only [Act.put, Fl.z1, Fl.z2, Fl.z3]
  refine Fl.call (some 60) Try.func18 (by kernel_rfl) rfl #[.agg #[.slice Aq16 x3.length cq16], .agg #[.slice Aq25 x3.length cq25]] rfl rfl rfl (by rfl) rfl (fun E W hE hi => ?_)
  refine (laws_eqMemory.calls k _ _ x3 _ _ x3 true W ((hE _ (Fl.inv_drop hi)).cS 2 rfl) ((hE _ (Fl.inv_drop hi)).lS 2 rfl) (hi.cS 0 rfl) (hi.lS 0 rfl) HA27.out).mono ?_
  rintro e W' ⟨rfl, hb⟩
  refine Fl.keep hi hb ?_
  clear hi hb hE
  simp only [Act.put, Fl.z1, Fl.z2, Fl.z3]
  refine Fl.take (some 61) (v := .bool false) rfl rfl (Or.inl ⟨by rfl, fun _ _ => by rfl⟩) ?_
  simp only [Act.put, Fl.z1, Fl.z2, Fl.z3]
  refine Fl.fin0 ?_
  refine Fl.stopN (fun W hi => ?_)
  replace HI := Lib.hid hi
  clear hi
  try clear hn_
  go_upto_region 13 with (fail)
  refine Fl.startW [.one 0, .take 1, .one 2, .take 3] (by decide) HI.out ?_
  refine Fl.ldF (some 62) 2 rfl rfl rfl (by rfl) _ _ rfl rfl Try.underlying31 rfl (by kernel_rfl) ?_
  simp only [Act.put, Fl.z1, Fl.z2, Fl.z3]
  refine Fl.take (some 63) (v := .int .i64 1) rfl rfl (Or.inl ⟨by rfl, fun _ _ => by rfl⟩) ?_
  simp only [Act.put, Fl.z1, Fl.z2, Fl.z3]
  refine Fl.call (some 64) Try.func30 (by kernel_rfl) rfl #[.agg #[.slice Aq16 x3.length cq16], .int .i64 1] rfl rfl rfl (by rfl) rfl (fun E W hE hi => ?_)
  refine Fl.markS 3 rfl hi (fun S hS => laws_markMemory.calls k S _ _ _ _ _ _ hi.bel hS HA29.out) ?_
  clear hi hE
  simp only [Act.put, Fl.z1, Fl.z2, Fl.z3]
  refine Fl.take (some 13) (v := .int .i64 x28) rfl rfl (Or.inl ⟨by rfl, fun _ _ => by rfl⟩) ?_
  simp only [Act.put, Fl.z1, Fl.z2, Fl.z3]
  refine Fl.stopW (fun W hi => ?_)
  replace HI := Lib.hid hi
  clear hi
  try clear hn_
  go_upto_region 14 with (fail)
  refine Fl.startL [.take 0, .take 1, .take 2, .take 3, .take 4, .one 5, .take 6, .take 7, .take 8, .take 9, .take 10, .take 11, .take 12, .take 13, .take 14, .take 15, .take 16, .take 17] (by decide) HI.out ?_
  refine Fl.take (some 65) (v := .int .i64 x28) rfl rfl (Or.inl ⟨by rfl, fun _ _ => by rfl⟩) ?_
  simp only [Act.put, Fl.z1, Fl.z2, Fl.z3]
  refine Fl.take (some 66) (v := .bool false) rfl rfl (Or.inl ⟨by rfl, fun _ _ => by have h_ := decide_eq_false HNx28.out; go_simp⟩) ?_
  simp only [Act.put, Fl.z1, Fl.z2, Fl.z3]
  refine Fl.take (some 67) (v := .bool false) rfl rfl (Or.inl ⟨by rfl, fun _ _ => by rfl⟩) ?_
  simp only [Act.put, Fl.z1, Fl.z2, Fl.z3]
  refine Fl.take (some 68) (v := .slice Aq22 x18.length cq22) rfl rfl (Or.inl ⟨by rfl, fun _ _ => by rfl⟩) ?_
  simp only [Act.put, Fl.z1, Fl.z2, Fl.z3]
  refine Fl.take (some 69) (v := .slice Aq15 x11.length cq15) rfl rfl (Or.inl ⟨by rfl, fun _ _ => by rfl⟩) ?_
  simp only [Act.put, Fl.z1, Fl.z2, Fl.z3]
  refine Fl.call (some 70) Try.func42 (by kernel_rfl) rfl #[.slice Aq22 x18.length cq22, .slice Aq15 x11.length cq15] rfl rfl rfl (by rfl) rfl (fun E W hE hi => ?_)
  refine (laws_eqWindowS.calls k _ _ x18 _ _ x11 true W ((hE _ (Fl.inv_drop hi)).cR 1 rfl) ((hE _ (Fl.inv_drop hi)).lR 1 rfl) ((hE _ (Fl.inv_drop hi)).cR 4 rfl) ((hE _ (Fl.inv_drop hi)).lR 4 rfl) HA24.out).mono ?_
  rintro e W' ⟨rfl, hb⟩
  refine Fl.keep hi hb ?_
  clear hi hb hE
  simp only [Act.put, Fl.z1, Fl.z2, Fl.z3]
  refine Fl.take (some 71) (v := .bool false) rfl rfl (Or.inl ⟨by rfl, fun _ _ => by rfl⟩) ?_
  simp only [Act.put, Fl.z1, Fl.z2, Fl.z3]
  refine Fl.take (some 72) (v := .bool false) rfl rfl (Or.inl ⟨by rfl, fun _ _ => by rfl⟩) ?_
  simp only [Act.put, Fl.z1, Fl.z2, Fl.z3]
  refine Fl.take (some 73) (v := .bool false) rfl rfl (Or.inl ⟨by rfl, fun _ _ => by rfl⟩) ?_
  simp only [Act.put, Fl.z1, Fl.z2, Fl.z3]
  refine Fl.take (some 74) (v := .int .i64 x19) rfl rfl (Or.inl ⟨by rfl, fun _ _ => by rfl⟩) ?_
  simp only [Act.put, Fl.z1, Fl.z2, Fl.z3]
  refine Fl.take (some 75) (v := .int .i64 x19) rfl rfl (Or.inl ⟨by rfl, fun _ _ => by rfl⟩) ?_
  simp only [Act.put, Fl.z1, Fl.z2, Fl.z3]
  refine Fl.take (some 76) (v := .bool false) rfl rfl (Or.inl ⟨by rfl, fun _ _ => by go_simp⟩) ?_
  simp only [Act.put, Fl.z1, Fl.z2, Fl.z3]
  refine Fl.take (some 77) (v := .bool false) rfl rfl (Or.inl ⟨by rfl, fun _ _ => by rfl⟩) ?_
  simp only [Act.put, Fl.z1, Fl.z2, Fl.z3]
  refine Fl.take (some 78) (v := .bool false) rfl rfl (Or.inl ⟨by rfl, fun _ _ => by rfl⟩) ?_
  simp only [Act.put, Fl.z1, Fl.z2, Fl.z3]
  refine Fl.take (some 79) (v := .bool x20) rfl rfl (Or.inl ⟨by rfl, fun _ _ => by rfl⟩) ?_
  simp only [Act.put, Fl.z1, Fl.z2, Fl.z3]
  refine Fl.take (some 80) (v := .bool x20) rfl rfl (Or.inl ⟨by rfl, fun _ _ => by rfl⟩) ?_
  simp only [Act.put, Fl.z1, Fl.z2, Fl.z3]
  refine Fl.take (some 81) (v := .bool false) rfl rfl (Or.inl ⟨by rfl, fun _ _ => by go_simp⟩) ?_
  simp only [Act.put, Fl.z1, Fl.z2, Fl.z3]
  refine Fl.take (some 82) (v := .bool false) rfl rfl (Or.inl ⟨by rfl, fun _ _ => by rfl⟩) ?_
  simp only [Act.put, Fl.z1, Fl.z2, Fl.z3]
  refine Fl.stop (fun W hi => ?_)
  replace HI := Lib.hid hi
  clear hi
  try clear hn_
  go_upto_region 17 with (fail)
  refine Fl.startW [.take 0, .take 1, .one 2, .take 3] (by decide) HI.out ?_
  refine Fl.take (some 83) (v := .slice Aq22 x18.length cq22) rfl rfl (Or.inl ⟨by rfl, fun _ _ => by rfl⟩) ?_
  simp only [Act.put, Fl.z1, Fl.z2, Fl.z3]
  refine Fl.take (some 84) (v := .int .i64 1) rfl rfl (Or.inl ⟨by rfl, fun _ _ => by rfl⟩) ?_
  simp only [Act.put, Fl.z1, Fl.z2, Fl.z3]
  refine Fl.call (some 85) Try.func43 (by kernel_rfl) rfl #[.slice Aq22 x18.length cq22, .int .i64 1] rfl rfl rfl (by rfl) rfl (fun E W hE hi => ?_)
  refine Fl.markR 1 rfl hi rfl (fun S hS => laws_markWindowS.calls k S _ _ _ _ _ _ _ hi.bel hS HA32.out) ?_
  clear hi hE
  simp only [Act.put, Fl.z1, Fl.z2, Fl.z3]
  refine Fl.take (some 14) (v := .int .i64 x33) rfl rfl (Or.inl ⟨by rfl, fun _ _ => by rfl⟩) ?_
  simp only [Act.put, Fl.z1, Fl.z2, Fl.z3]
  refine Fl.stopW (fun W hi => ?_)
  replace HI := Lib.hid hi
  clear hi
  try clear hn_
  go_upto_region 19 with (fail)
  refine Fl.startL [.take 0, .take 1, .one 2, .take 3] (by decide) HI.out ?_
  refine Fl.take (some 86) (v := .slice Aq22 x18.length cq22) rfl rfl (Or.inl ⟨by rfl, fun _ _ => by rfl⟩) ?_
  simp only [Act.put, Fl.z1, Fl.z2, Fl.z3]
  refine Fl.take (some 87) (v := .int .i64 1) rfl rfl (Or.inl ⟨by rfl, fun _ _ => by rfl⟩) ?_
  simp only [Act.put, Fl.z1, Fl.z2, Fl.z3]
  refine Fl.call (some 88) Try.func44 (by kernel_rfl) rfl #[.slice Aq22 x18.length cq22, .int .i64 1] rfl rfl rfl (by rfl) rfl (fun E W hE hi => ?_)
  have hl_ := ((hE _ (Fl.inv_drop hi)).reads 1 rfl).1
  have hc_ := laws_heldWindowS.calls k _ _ x31 1 x33 W ((hE _ (Fl.inv_drop hi)).reads 1 rfl).2.2 (hl_ ▸ ((hE _ (Fl.inv_drop hi)).reads 1 rfl).2.1) HA34.out
  rw [← hl_] at hc_
  refine hc_.mono ?_
  clear hc_ hl_
  rintro e W' ⟨rfl, hb⟩
  refine Fl.keep hi hb.below ?_
  clear hi hb hE
  simp only [Act.put, Fl.z1, Fl.z2, Fl.z3]
  refine Fl.take (some 15) (v := .int .i64 x33) rfl rfl (Or.inl ⟨by rfl, fun _ _ => by rfl⟩) ?_
  simp only [Act.put, Fl.z1, Fl.z2, Fl.z3]
  refine Fl.stop (fun W hi => ?_)
  replace HI := Lib.hid hi
  clear hi
  try clear hn_
  have hn_ := decide_eq_false HNx33.out
  go_upto_region 24 with (fail)
  refine Fl.start [([],[]),([0],[0]),([],[]),([2,1],[2]),([1,3,3],[1,3]),([4],[4]),([5],[5]),([5],[5]),([5],[5]),([6,4,0,1,2,3,4,5,6],[6]),([7,9,0,1,2,3,4,5,6,7,9],[7]),([8,10,0,1,2,3,4,5,6,7,8,9,10],[8])] [] 13 [.take 0, .take 2, .one 1, .one 3, .one 4, .take 5, .take 6, .take 7, .take 8, .take 9, .take 10, .take 11] [] (by kernel_rfl) (by kernel_rfl) (by decide) (by decide) (by kernel_rfl) (by kernel_rfl) Fl.mk0 HI.out ?_
  refine Fl.take (some 95) (v := .agg #[.slice A0_0 l0_0.length c0_0]) rfl rfl (Fl.ld 7 rfl (by rfl) _ _ rfl rfl Try.underlying24 rfl (by kernel_rfl)) ?_
  simp only [Act.put, Fl.z1, Fl.z2, Fl.z3]
  refine Fl.take (some 97) (v := .agg #[.int .i64 a1_0, .int .i64 a1_1, .int .i64 a1_2, .int .i64 a1_3]) rfl rfl (Fl.ld 6 rfl (by rfl) _ _ rfl rfl Try.underlying26 rfl (by kernel_rfl)) ?_
  simp only [Act.put, Fl.z1, Fl.z2, Fl.z3]
  refine Fl.call (some 96) Try.func14 (by kernel_rfl) rfl #[.agg #[.slice A0_0 l0_0.length c0_0]] rfl rfl rfl (by rfl) rfl (fun E W hE hi => ?_)
  refine (laws_toMemory.calls k _ _ l0_0 x3 W (Kd.C_below HR0_0.out hi.bel) HC0_0.out HA4.out).mono ?_
  rintro e W' ⟨v, rfl, hr, hb⟩
  obtain ⟨Aq35, cq35, rfl⟩ := Kd.S_slice hr
  refine Fl.addS hi (Kd.S_mono hr (fun _ _ => trivial)) hb ?_
  clear hr
  clear hi hb hE
  simp only [Act.put, Fl.z1, Fl.z2, Fl.z3]
  refine Fl.call (some 98) Try.func15 (by kernel_rfl) rfl #[.agg #[.int .i64 a1_0, .int .i64 a1_1, .int .i64 a1_2, .int .i64 a1_3]] rfl rfl rfl (by rfl) rfl (fun E W hE hi => ?_)
  refine (laws_toWindow.calls a1_0 a1_1 a1_2 a1_3 x6 x7 x8 x9 W HA10.out).mono ?_
  rintro e W' ⟨rfl, hb⟩
  refine Fl.keep hi hb ?_
  clear hi hb hE
  simp only [Act.put, Fl.z1, Fl.z2, Fl.z3]
  refine Fl.call (some 99) Try.func41 (by kernel_rfl) rfl #[.agg #[.slice Aq35 x3.length cq35], .agg #[.int .i64 x6, .int .i64 x7, .int .i64 x8, .int .i64 x9]] rfl rfl rfl (by rfl) rfl (fun E W hE hi => ?_)
  refine (impl_ParseFrames.calls k _ _ x3 x6 x7 x8 x9 x18 x19 x20 W (hi.cS 0 rfl) (hi.lS 0 rfl) HA21.out).mono ?_
  rintro e W' ⟨v, rfl, hr, hb⟩
  obtain ⟨Aq36, cq36, rfl⟩ := Kd.R_slice hr
  refine Fl.addR hi (Kd.R_mono hr (fun _ _ => trivial)) hb ?_
  clear hr
  clear hi hb hE
  simp only [Act.put, Fl.z1, Fl.z2, Fl.z3]
  refine Fl.take (some 94) (v := .tuple #[.slice Aq36 x18.length cq36, .int .i64 x19, .bool x20]) rfl rfl (Or.inl ⟨by rfl, fun _ _ => by rfl⟩) ?_
  simp only [Act.put, Fl.z1, Fl.z2, Fl.z3]
  refine Fl.take (some 100) (v := .slice Aq36 x18.length cq36) rfl rfl (Or.inl ⟨by rfl, fun _ _ => by rfl⟩) ?_
  simp only [Act.put, Fl.z1, Fl.z2, Fl.z3]
  refine Fl.take (some 101) (v := .int .i64 x19) rfl rfl (Or.inl ⟨by rfl, fun _ _ => by rfl⟩) ?_
  simp only [Act.put, Fl.z1, Fl.z2, Fl.z3]
  refine Fl.take (some 102) (v := .bool x20) rfl rfl (Or.inl ⟨by rfl, fun _ _ => by rfl⟩) ?_
  simp only [Act.put, Fl.z1, Fl.z2, Fl.z3]
  refine Fl.take (some 16) (v := .slice Aq36 x18.length cq36) rfl rfl (Or.inl ⟨by rfl, fun _ _ => by rfl⟩) ?_
  simp only [Act.put, Fl.z1, Fl.z2, Fl.z3]
  refine Fl.take (some 17) (v := .int .i64 x19) rfl rfl (Or.inl ⟨by rfl, fun _ _ => by rfl⟩) ?_
  simp only [Act.put, Fl.z1, Fl.z2, Fl.z3]
  refine Fl.take (some 18) (v := .bool x20) rfl rfl (Or.inl ⟨by rfl, fun _ _ => by rfl⟩) ?_
  simp only [Act.put, Fl.z1, Fl.z2, Fl.z3]
  refine Fl.fin0 ?_
  refine Fl.stopN (fun W hi => ?_)
  replace HI := Lib.hid hi
  clear hi
  try clear hn_
  go_upto_region 25 with (fail)
  refine Fl.startL [.take 0, .take 1, .one 2, .take 3, .take 4, .take 5, .take 6, .take 7, .take 8, .take 9, .take 10, .take 11, .take 12, .take 13] (by decide) HI.out ?_
  refine Fl.take (some 103) (v := .slice Aq36 x18.length cq36) rfl rfl (Or.inl ⟨by rfl, fun _ _ => by rfl⟩) ?_
  simp only [Act.put, Fl.z1, Fl.z2, Fl.z3]
  refine Fl.take (some 104) (v := .slice Aq15 x11.length cq15) rfl rfl (Or.inl ⟨by rfl, fun _ _ => by rfl⟩) ?_
  simp only [Act.put, Fl.z1, Fl.z2, Fl.z3]
  refine Fl.call (some 105) Try.func42 (by kernel_rfl) rfl #[.slice Aq36 x18.length cq36, .slice Aq15 x11.length cq15] rfl rfl rfl (by rfl) rfl (fun E W hE hi => ?_)
  refine (laws_eqWindowS.calls k _ _ x18 _ _ x11 true W ((hE _ (Fl.inv_drop hi)).cR 0 rfl) ((hE _ (Fl.inv_drop hi)).lR 0 rfl) ((hE _ (Fl.inv_drop hi)).cR 6 rfl) ((hE _ (Fl.inv_drop hi)).lR 6 rfl) HA24.out).mono ?_
  rintro e W' ⟨rfl, hb⟩
  refine Fl.keep hi hb ?_
  clear hi hb hE
  simp only [Act.put, Fl.z1, Fl.z2, Fl.z3]
  refine Fl.take (some 106) (v := .bool false) rfl rfl (Or.inl ⟨by rfl, fun _ _ => by rfl⟩) ?_
  simp only [Act.put, Fl.z1, Fl.z2, Fl.z3]
  refine Fl.take (some 107) (v := .bool false) rfl rfl (Or.inl ⟨by rfl, fun _ _ => by rfl⟩) ?_
  simp only [Act.put, Fl.z1, Fl.z2, Fl.z3]
  refine Fl.take (some 108) (v := .int .i64 x19) rfl rfl (Or.inl ⟨by rfl, fun _ _ => by rfl⟩) ?_
  simp only [Act.put, Fl.z1, Fl.z2, Fl.z3]
  refine Fl.take (some 109) (v := .int .i64 x19) rfl rfl (Or.inl ⟨by rfl, fun _ _ => by rfl⟩) ?_
  simp only [Act.put, Fl.z1, Fl.z2, Fl.z3]
  refine Fl.take (some 110) (v := .bool false) rfl rfl (Or.inl ⟨by rfl, fun _ _ => by go_simp⟩) ?_
  simp only [Act.put, Fl.z1, Fl.z2, Fl.z3]
  refine Fl.take (some 111) (v := .bool false) rfl rfl (Or.inl ⟨by rfl, fun _ _ => by rfl⟩) ?_
  simp only [Act.put, Fl.z1, Fl.z2, Fl.z3]
  refine Fl.take (some 112) (v := .bool false) rfl rfl (Or.inl ⟨by rfl, fun _ _ => by rfl⟩) ?_
  simp only [Act.put, Fl.z1, Fl.z2, Fl.z3]
  refine Fl.take (some 113) (v := .bool x20) rfl rfl (Or.inl ⟨by rfl, fun _ _ => by rfl⟩) ?_
  simp only [Act.put, Fl.z1, Fl.z2, Fl.z3]
  refine Fl.take (some 114) (v := .bool x20) rfl rfl (Or.inl ⟨by rfl, fun _ _ => by rfl⟩) ?_
  simp only [Act.put, Fl.z1, Fl.z2, Fl.z3]
  refine Fl.take (some 115) (v := .bool false) rfl rfl (Or.inl ⟨by rfl, fun _ _ => by go_simp⟩) ?_
  simp only [Act.put, Fl.z1, Fl.z2, Fl.z3]
  refine Fl.take (some 116) (v := .bool false) rfl rfl (Or.inl ⟨by rfl, fun _ _ => by rfl⟩) ?_
  simp only [Act.put, Fl.z1, Fl.z2, Fl.z3]
  refine Fl.stop (fun W hi => ?_)
  replace HI := Lib.hid hi
  clear hi
  try clear hn_
  go_upto_region 28 with (fail)
  refine Fl.startL [.take 0, .take 1, .one 2, .take 3] (by decide) HI.out ?_
  refine Fl.take (some 117) (v := .slice Aq22 x18.length cq22) rfl rfl (Or.inl ⟨by rfl, fun _ _ => by rfl⟩) ?_
  simp only [Act.put, Fl.z1, Fl.z2, Fl.z3]
  refine Fl.take (some 118) (v := .int .i64 1) rfl rfl (Or.inl ⟨by rfl, fun _ _ => by rfl⟩) ?_
  simp only [Act.put, Fl.z1, Fl.z2, Fl.z3]
  refine Fl.call (some 119) Try.func44 (by kernel_rfl) rfl #[.slice Aq22 x18.length cq22, .int .i64 1] rfl rfl rfl (by rfl) rfl (fun E W hE hi => ?_)
  have hl_ := ((hE _ (Fl.inv_drop hi)).reads 3 rfl).1
  have hc_ := laws_heldWindowS.calls k _ _ x31 1 x33 W ((hE _ (Fl.inv_drop hi)).reads 3 rfl).2.2 (hl_ ▸ ((hE _ (Fl.inv_drop hi)).reads 3 rfl).2.1) HA34.out
  rw [← hl_] at hc_
  refine hc_.mono ?_
  clear hc_ hl_
  rintro e W' ⟨rfl, hb⟩
  refine Fl.keep hi hb.below ?_
  clear hi hb hE
  simp only [Act.put, Fl.z1, Fl.z2, Fl.z3]
  refine Fl.take (some 15) (v := .int .i64 x33) rfl rfl (Or.inl ⟨by rfl, fun _ _ => by rfl⟩) ?_
  simp only [Act.put, Fl.z1, Fl.z2, Fl.z3]
  refine Fl.stop (fun W hi => ?_)
  replace HI := Lib.hid hi
  clear hi
  try clear hn_
  have hn_ := decide_eq_false HNx33.out
  go_wp2
  go_ret
  exact ⟨rfl, HI.out.bel⟩

end Go.Proofs.Ytldkbeccpheckaa.PFnExactParseFrames
