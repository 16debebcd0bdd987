/- What is proved here: each Go function that is named below answers, and leaves memory, as the theorem of its name says; no condition beyond those that each theorem states. Laid by this session's own program (wip/driver.py) over the kit's print. -/
import Derived.Test.YtldkbeccpheckabPFnExactMergePartsx0
import Derived.Test.YtldkbeccpheckabPFnExactMergePartsx1
import Derived.Test.YtldkbeccpheckabPFnExactMergePartsx2
import Derived.Test.YtldkbeccpheckabPFnExactMergePartsx4
import Derived.Test.YtldkbeccpheckabPFnExactMergePartsx6
namespace Go.Proofs.Ytldkbeccpheckab.PFnExactMergeParts
open Go.RowKit Go.Proofs.YtldkbeccpheckabW.PrintWords Go.Proofs.YtldkbeccpheckabW.PrintLast Go.Proofs.YtldkbeccpheckabW.PrintMore
attribute [local go_sem] max2_int min2_int max_two min_two max_three min_three max_four min_four   -- for this text's walks alone
set_option linter.unusedVariables false
set_option linter.unusedSimpArgs false

/-! ### laws_FnExactMergeParts: function 5 (by hand) -/
def laws_FnExactMergeParts.f (k : Nat) (l0_0 : List (List Int)) (l1_0 : List (S53)) : Option Bool := (laws_szMemory.f k l0_0 1048576).bind fun x1 => if x1 < 0 then some true else (laws_szRope.f l1_0 x1).bind fun x3 => if x3 < 0 then some true else (laws_toMemory.f k l0_0).bind fun x5 => (laws_toRope.f k l1_0).bind fun x8 => (spec_MergeParts.f k x5 x8).bind fun y_x11 => (impl_MergeParts.f k x5 x8).bind fun y_x20 => (laws_eqRope.f k (y_x20.1) (y_x11.1)).bind fun x25 => (laws_eqMemory.f k x5 x5).bind fun x28 => (laws_eqRope.f k x8 x8).bind fun x31 => (laws_markMemory.f k x5 1).bind fun x33 => (laws_markRope.f k x8 x33).bind fun y_x35 => (laws_markRope.f k (y_x20.1) 1).bind fun y_x38 => (laws_heldRope.f k (y_x38.2) 1).bind fun x41 => if x25 = true ∧ x28 = true ∧ x31 = true ∧ y_x20.2 = y_x11.2 ∧ ¬ y_x35.1 < 0 ∧ ¬ x41 < 0 ∧ x41 = y_x38.1 then some true else none
theorem laws_FnExactMergeParts.mono : ∀ l0_0 l1_0 k, LeO (laws_FnExactMergeParts.f k l0_0 l1_0) (laws_FnExactMergeParts.f (k + 1) l0_0 l1_0) := by
  intro l0_0 l1_0 k
  unfold laws_FnExactMergeParts.f
  exact LeO.bind (by apply laws_szMemory.mono) (fun _ => LeO.ite (LeO.refl _) (LeO.bind (LeO.refl _) (fun _ => LeO.ite (LeO.refl _) (LeO.bind (by apply laws_toMemory.mono) (fun _ => LeO.bind (by apply laws_toRope.mono) (fun _ => LeO.bind (by apply spec_MergeParts.mono) (fun _ => LeO.bind (by apply impl_MergeParts.mono) (fun _ => LeO.bind (by apply laws_eqRope.mono) (fun _ => LeO.bind (by apply laws_eqMemory.mono) (fun _ => LeO.bind (by apply laws_eqRope.mono) (fun _ => LeO.bind (by apply laws_markMemory.mono) (fun _ => LeO.bind (by apply laws_markRope.mono) (fun _ => LeO.bind (by apply laws_markRope.mono) (fun _ => LeO.bind (by apply laws_heldRope.mono) (fun _ => LeO.refl _)))))))))))))))
set_option maxHeartbeats 4000000 in
set_option maxRecDepth 100000 in
theorem laws_FnExactMergeParts.calls (k : Nat) (A0_0 : Option Addr) (c0_0 : Nat) (l0_0 : List (List Int)) (A1_0 : Option Addr) (c1_0 : Nat) (l1_0 : List (S53)) (r : Bool) (w : World) (hr0_0 : Kd.C (Kd.slice 5 (Kd.int .u8)) w A0_0 l0_0.length l0_0) (hc0_0 : l0_0.length ≤ c0_0) (hr1_0 : Kd.C k53 w A1_0 l1_0.length l1_0) (hc1_0 : l1_0.length ≤ c1_0) (h : laws_FnExactMergeParts.f k l0_0 l1_0 = some r) :
    Calls Try.prog 5 #[.agg #[.slice A0_0 l0_0.length c0_0], .agg #[.slice A1_0 l1_0.length c1_0]] w fun e w' => e = .returned (.bool r) ∧ Below w.heap.size w w' := by
  have HR0_0 := Lib.hid hr0_0
  have HC0_0 := Lib.hid hc0_0
  clear hr0_0 hc0_0
  have HR1_0 := Lib.hid hr1_0
  have HC1_0 := Lib.hid hc1_0
  clear hr1_0 hc1_0
  obtain ⟨W0, hW⟩ : ∃ W, W = ((w.alloc (.cells #[.slice A0_0 l0_0.length c0_0] 24)).alloc (.cells #[.slice A1_0 l1_0.length c1_0] 27)) := ⟨_, rfl⟩
  have HI : Hid (Lv.Inv w W0 [Lv.boxF (w.heap.size + 1) #[.slice A1_0 l1_0.length c1_0] 27, Lv.boxF (w.heap.size) #[.slice A0_0 l0_0.length c0_0] 24]) := by
    subst hW
    have := (((Lv.Inv.refl w).box #[.slice A0_0 l0_0.length c0_0] 24).box #[.slice A1_0 l1_0.length c1_0] 27)
    exact Lib.hid (by simpa using this)
  unfold laws_FnExactMergeParts.f at h
  replace h := Option.bind_eq_some_iff.mp h
  obtain ⟨x1, A2, h⟩ := h
  try dsimp only at h
  have HA2 := Lib.hid A2
  clear A2
  have HH := Lib.hid h
  clear h
  go_enter Try.func5, Try.ntmps5
  go_upto_region 1 with (fail)
  rw [← hW]
  clear hW
  go_upto_region 2 with (fail)
  refine Fl.startL [.take 0, .take 1, .one 2, .take 3] (by decide) HI.out ?_
  refine Fl.take (some 17) (v := .agg #[.slice A0_0 l0_0.length c0_0]) rfl rfl (Fl.ld 1 rfl (by rfl) _ _ rfl rfl Try.underlying24 rfl (by kernel_rfl)) ?_
  simp only [Act.put, Fl.z1, Fl.z2, Fl.z3]
  refine Fl.take (some 18) (v := .int .i64 1048576) rfl rfl (Or.inl ⟨by rfl, fun _ _ => by rfl⟩) ?_
  simp only [Act.put, Fl.z1, Fl.z2, Fl.z3]
  refine Fl.call (some 19) Try.func12 (by kernel_rfl) rfl #[.agg #[.slice A0_0 l0_0.length c0_0], .int .i64 1048576] rfl rfl rfl (by rfl) rfl (fun E W hE hi => ?_)
  refine (laws_szMemory.calls k _ _ l0_0 1048576 x1 W (Kd.C_below HR0_0.out hi.bel) HC0_0.out HA2.out).mono ?_
  rintro e W' ⟨rfl, hb⟩
  refine Fl.keep hi hb ?_
  clear hi hb hE
  simp only [Act.put, Fl.z1, Fl.z2, Fl.z3]
  refine Fl.take (some 5) (v := .int .i64 x1) rfl rfl (Or.inl ⟨by rfl, fun _ _ => by rfl⟩) ?_
  simp only [Act.put, Fl.z1, Fl.z2, Fl.z3]
  refine Fl.stop (fun W hi => ?_)
  replace HI := Lib.hid hi
  clear hi
  try clear hn_
  have h := HH.out
  clear HH
  by_cases hn : x1 < 0
  · rw [if_pos hn] at h
    obtain rfl := Option.some.inj h
    clear h
    have hn_ := decide_eq_true hn
    go_wp2
    go_ret
    exact ⟨rfl, HI.out.bel⟩
  rw [if_neg hn] at h
  have hn_ := decide_eq_false hn
  clear hn
  replace h := Option.bind_eq_some_iff.mp h
  obtain ⟨x3, A4, h⟩ := h
  try dsimp only at h
  have HA4 := Lib.hid A4
  clear A4
  have HH := Lib.hid h
  clear h
  go_upto_region 5 with (fail)
  refine Fl.startL [.take 0, .take 1, .one 2, .take 3] (by decide) HI.out ?_
  refine Fl.take (some 22) (v := .agg #[.slice A1_0 l1_0.length c1_0]) rfl rfl (Fl.ld 0 rfl (by rfl) _ _ rfl rfl Try.underlying27 rfl (by kernel_rfl)) ?_
  simp only [Act.put, Fl.z1, Fl.z2, Fl.z3]
  refine Fl.take (some 23) (v := .int .i64 x1) rfl rfl (Or.inl ⟨by rfl, fun _ _ => by rfl⟩) ?_
  simp only [Act.put, Fl.z1, Fl.z2, Fl.z3]
  refine Fl.call (some 24) Try.func13 (by kernel_rfl) rfl #[.agg #[.slice A1_0 l1_0.length c1_0], .int .i64 x1] rfl rfl rfl (by rfl) rfl (fun E W hE hi => ?_)
  refine (laws_szRope.calls _ _ l1_0 x1 x3 W (Kd.C_below HR1_0.out hi.bel) HC1_0.out HA4.out).mono ?_
  rintro e W' ⟨rfl, hb⟩
  refine Fl.keep hi hb ?_
  clear hi hb hE
  simp only [Act.put, Fl.z1, Fl.z2, Fl.z3]
  refine Fl.take (some 5) (v := .int .i64 x3) rfl rfl (Or.inl ⟨by rfl, fun _ _ => by rfl⟩) ?_
  simp only [Act.put, Fl.z1, Fl.z2, Fl.z3]
  refine Fl.stop (fun W hi => ?_)
  replace HI := Lib.hid hi
  clear hi
  try clear hn_
  have h := HH.out
  clear HH
  by_cases hn : x3 < 0
  · rw [if_pos hn] at h
    obtain rfl := Option.some.inj h
    clear h
    have hn_ := decide_eq_true hn
    go_wp2
    go_ret
    exact ⟨rfl, HI.out.bel⟩
  rw [if_neg hn] at h
  have hn_ := decide_eq_false hn
  clear hn
  replace h := Option.bind_eq_some_iff.mp h
  obtain ⟨x5, A6, h⟩ := h
  try dsimp only at h
  have HA6 := Lib.hid A6
  clear A6
  replace h := Option.bind_eq_some_iff.mp h
  obtain ⟨x8, A9, h⟩ := h
  try dsimp only at h
  have HA9 := Lib.hid A9
  clear A9
  replace h := Option.bind_eq_some_iff.mp h
  obtain ⟨⟨x11, x12⟩, A13, h⟩ := h
  try dsimp only at h
  have HA13 := Lib.hid A13
  clear A13
  replace h := Option.bind_eq_some_iff.mp h
  obtain ⟨⟨x20, x21⟩, A22, h⟩ := h
  try dsimp only at h
  have HA22 := Lib.hid A22
  clear A22
  replace h := Option.bind_eq_some_iff.mp h
  obtain ⟨x25, A26, h⟩ := h
  try dsimp only at h
  have HA26 := Lib.hid A26
  clear A26
  replace h := Option.bind_eq_some_iff.mp h
  obtain ⟨x28, A29, h⟩ := h
  try dsimp only at h
  have HA29 := Lib.hid A29
  clear A29
  replace h := Option.bind_eq_some_iff.mp h
  obtain ⟨x31, A32, h⟩ := h
  try dsimp only at h
  have HA32 := Lib.hid A32
  clear A32
  replace h := Option.bind_eq_some_iff.mp h
  obtain ⟨x33, A34, h⟩ := h
  try dsimp only at h
  have HA34 := Lib.hid A34
  clear A34
  replace h := Option.bind_eq_some_iff.mp h
  obtain ⟨⟨x35, x36⟩, A37, h⟩ := h
  try dsimp only at h
  have HA37 := Lib.hid A37
  clear A37
  replace h := Option.bind_eq_some_iff.mp h
  obtain ⟨⟨x38, x39⟩, A40, h⟩ := h
  try dsimp only at h
  have HA40 := Lib.hid A40
  clear A40
  replace h := Option.bind_eq_some_iff.mp h
  obtain ⟨x41, A42, h⟩ := h
  try dsimp only at h
  have HA42 := Lib.hid A42
  clear A42
  obtain ⟨hc, rfl⟩ := Lv.of_if h
  clear h
  obtain ⟨rfl, rfl, rfl, rfl, hnx35, hnx41, rfl⟩ := hc
  have HNx35 := Lib.hid hnx35
  clear hnx35
  have HNx41 := Lib.hid hnx41
  clear hnx41
  go_upto_region 8 with (fail)
  refine Fl.start [([],[]),([0],[0]),([],[]),([2,1],[2]),([1,3,3],[1,3]),([4],[4]),([5],[5]),([5],[5]),([],[]),([8,6,4,0,1,2,3,4,5,6,8],[6,8]),([7,9,0,1,2,3,4,5,6,7,8,9],[7])] [⟨8, 6, #[.slice none 0 0], 32⟩] 10 [.take 0, .take 2, .one 1, .one 3, .one 4, .take 5, .take 6, .take 7] [.one 9, .take 10] (by kernel_rfl) (by kernel_rfl) (by decide) (by decide) (by kernel_rfl) (by kernel_rfl) (Fl.mkc ⟨_, rfl, rfl, fun _ => rfl, fun e w => by go_simp⟩ Fl.mk0) HI.out ?_
  refine Fl.take (some 28) (v := .agg #[.slice A0_0 l0_0.length c0_0]) rfl rfl (Fl.ld 1 rfl (by rfl) _ _ rfl rfl Try.underlying24 rfl (by kernel_rfl)) ?_
  simp only [Act.put, Fl.z1, Fl.z2, Fl.z3]
  refine Fl.take (some 30) (v := .agg #[.slice A1_0 l1_0.length c1_0]) rfl rfl (Fl.ld 0 rfl (by rfl) _ _ rfl rfl Try.underlying27 rfl (by kernel_rfl)) ?_
  simp only [Act.put, Fl.z1, Fl.z2, Fl.z3]
  refine Fl.call (some 29) Try.func15 (by kernel_rfl) rfl #[.agg #[.slice A0_0 l0_0.length c0_0]] rfl rfl rfl (by rfl) rfl (fun E W hE hi => ?_)
  refine (laws_toMemory.calls k _ _ l0_0 x5 W (Kd.C_below HR0_0.out hi.bel) HC0_0.out HA6.out).mono ?_
  rintro e W' ⟨v, rfl, hr, hb⟩
  obtain ⟨Aq7, cq7, rfl⟩ := Kd.S_slice hr
  refine Fl.addS hi (Kd.S_mono hr (fun _ _ => trivial)) hb ?_
  clear hr
  clear hi hb hE
  simp only [Act.put, Fl.z1, Fl.z2, Fl.z3]
  refine Fl.call (some 31) Try.func16 (by kernel_rfl) rfl #[.agg #[.slice A1_0 l1_0.length c1_0]] rfl rfl rfl (by rfl) rfl (fun E W hE hi => ?_)
  refine (laws_toRope.calls k _ _ l1_0 x8 W (Kd.C_below HR1_0.out hi.bel) HC1_0.out HA9.out).mono ?_
  rintro e W' ⟨v, rfl, hr, hb⟩
  obtain ⟨Aq10, cq10, rfl⟩ := Kd.R_slice hr
  refine Fl.addR hi (Kd.R_mono hr (fun _ _ => trivial)) hb ?_
  clear hr
  clear hi hb hE
  simp only [Act.put, Fl.z1, Fl.z2, Fl.z3]
  refine Fl.call (some 32) Try.func25 (by kernel_rfl) rfl #[.agg #[.slice Aq7 x5.length cq7], .agg #[.slice Aq10 x8.length cq10]] rfl rfl rfl (by rfl) rfl (fun E W hE hi => ?_)
  refine (spec_MergeParts.calls k _ _ x5 _ _ x8 x11 x21 W (hi.cS 1 rfl) (hi.lS 1 rfl) (hi.cR 0 rfl) (hi.lR 0 rfl) HA13.out).mono ?_
  rintro e W' ⟨v, rfl, hr, hb⟩
  obtain ⟨Aq14, cq14, rfl⟩ := Kd.R_slice hr
  refine Fl.addR hi (Kd.R_mono hr (fun _ _ => trivial)) hb ?_
  clear hr
  clear hi hb hE
  simp only [Act.put, Fl.z1, Fl.z2, Fl.z3]
  refine Fl.take (some 27) (v := .tuple #[.agg #[.slice Aq14 x11.length cq14], .bool x21]) rfl rfl (Or.inl ⟨by rfl, fun _ _ => by rfl⟩) ?_
  simp only [Act.put, Fl.z1, Fl.z2, Fl.z3]
  refine Fl.take (some 33) (v := .agg #[.slice Aq14 x11.length cq14]) rfl rfl (Or.inl ⟨by rfl, fun _ _ => by rfl⟩) ?_
  simp only [Act.put, Fl.z1, Fl.z2, Fl.z3]
  refine Fl.take (some 34) (v := .bool x21) rfl rfl (Or.inl ⟨by rfl, fun _ _ => by rfl⟩) ?_
  simp only [Act.put, Fl.z1, Fl.z2, Fl.z3]
  refine Fl.fin1 (fun b15 => ?_)
  simp only [Act.put, Fl.z1, Fl.z2, Fl.z3]
  refine Fl.store 3 #[.slice Aq14 x11.length cq14] rfl rfl rfl rfl _ _ _ rfl rfl rfl (by rfl) rfl (by kernel_rfl) (by simp [Value.oneCell']) ?_
  refine Fl.take (some 7) (v := .bool x21) rfl rfl (Or.inl ⟨by rfl, fun _ _ => by rfl⟩) ?_
  simp only [Act.put, Fl.z1, Fl.z2, Fl.z3]
  refine Fl.stopN (fun W hi => ?_)
  replace HI := Lib.hid hi
  clear hi
  try clear hn_
  go_upto_region 9 with (fail)
  refine Fl.startL [.take 0, .one 1, .one 2, .one 3] (by decide) HI.out ?_
  refine Fl.take (some 35) (v := .agg #[.slice A0_0 l0_0.length c0_0]) rfl rfl (Fl.ld 5 rfl (by rfl) _ _ rfl rfl Try.underlying24 rfl (by kernel_rfl)) ?_
  simp only [Act.put, Fl.z1, Fl.z2, Fl.z3]
  refine Fl.call (some 36) Try.func15 (by kernel_rfl) rfl #[.agg #[.slice A0_0 l0_0.length c0_0]] rfl rfl rfl (by rfl) rfl (fun E W hE hi => ?_)
  refine (laws_toMemory.calls k _ _ l0_0 x5 W (Kd.C_below HR0_0.out hi.bel) HC0_0.out HA6.out).mono ?_
  rintro e W' ⟨v, rfl, hr, hb⟩
  obtain ⟨Aq16, cq16, rfl⟩ := Kd.S_slice hr
  refine Fl.addS hi (Kd.S_mono hr (fun _ _ => trivial)) hb ?_
  clear hr
  clear hi hb hE
  simp only [Act.put, Fl.z1, Fl.z2, Fl.z3]
  refine Fl.var (N := 8) (cs := #[.slice none 0 0]) (t := 35) ⟨_, rfl, rfl, fun _ => rfl, fun e w => by go_simp⟩ (fun b17 => ?_)
  simp only [Act.put, Fl.z1, Fl.z2, Fl.z3]
  refine Fl.store 0 #[.slice Aq16 x5.length cq16] rfl rfl rfl rfl _ _ _ rfl rfl rfl (by rfl) rfl (by kernel_rfl) (by simp [Value.oneCell']) ?_
  refine Fl.stop (fun W hi => ?_)
  replace HI := Lib.hid hi
  clear hi
  try clear hn_
  go_upto_region 10 with (fail)
  refine Fl.startL [.take 0, .one 1, .one 2, .one 3] (by decide) HI.out ?_
  refine Fl.take (some 37) (v := .agg #[.slice A1_0 l1_0.length c1_0]) rfl rfl (Fl.ld 6 rfl (by rfl) _ _ rfl rfl Try.underlying27 rfl (by kernel_rfl)) ?_
  simp only [Act.put, Fl.z1, Fl.z2, Fl.z3]
  refine Fl.call (some 38) Try.func16 (by kernel_rfl) rfl #[.agg #[.slice A1_0 l1_0.length c1_0]] rfl rfl rfl (by rfl) rfl (fun E W hE hi => ?_)
  refine (laws_toRope.calls k _ _ l1_0 x8 W (Kd.C_below HR1_0.out hi.bel) HC1_0.out HA9.out).mono ?_
  rintro e W' ⟨v, rfl, hr, hb⟩
  obtain ⟨Aq18, cq18, rfl⟩ := Kd.R_slice hr
  refine Fl.addR hi (Kd.R_mono hr (fun _ _ => trivial)) hb ?_
  clear hr
  clear hi hb hE
  simp only [Act.put, Fl.z1, Fl.z2, Fl.z3]
  refine Fl.var (N := 9) (cs := #[.slice none 0 0]) (t := 32) ⟨_, rfl, rfl, fun _ => rfl, fun e w => by go_simp⟩ (fun b19 => ?_)
  simp only [Act.put, Fl.z1, Fl.z2, Fl.z3]
  refine Fl.store 0 #[.slice Aq18 x8.length cq18] rfl rfl rfl rfl _ _ _ rfl rfl rfl (by rfl) rfl (by kernel_rfl) (by simp [Value.oneCell']) ?_
  refine Fl.stop (fun W hi => ?_)
  replace HI := Lib.hid hi
  clear hi
  try clear hn_
  go_upto_region 11 with (fail)
  refine Fl.startL [.take 0, .take 1, .one 2, .take 3, .take 4, .take 5, .one 6, .one 7, .take 8] (by decide) HI.out ?_
  refine Fl.take (some 40) (v := .agg #[.slice Aq16 x5.length cq16]) rfl rfl (Fl.ld 2 rfl (by rfl) _ _ rfl rfl Try.underlying35 rfl (by kernel_rfl)) ?_
  simp only [Act.put, Fl.z1, Fl.z2, Fl.z3]
  refine Fl.take (some 41) (v := .agg #[.slice Aq18 x8.length cq18]) rfl rfl (Fl.ld 0 rfl (by rfl) _ _ rfl rfl Try.underlying32 rfl (by kernel_rfl)) ?_
  simp only [Act.put, Fl.z1, Fl.z2, Fl.z3]
  refine Fl.call (some 42) Try.func26 (by kernel_rfl) rfl #[.agg #[.slice Aq16 x5.length cq16], .agg #[.slice Aq18 x8.length cq18]] rfl rfl rfl (by rfl) rfl (fun E W hE hi => ?_)
  refine (impl_MergeParts.calls k _ _ x5 _ _ x8 x20 x21 W ((hE _ (Fl.inv_drop hi)).cS 3 rfl) ((hE _ (Fl.inv_drop hi)).lS 3 rfl) ((hE _ (Fl.inv_drop hi)).cR 1 rfl) ((hE _ (Fl.inv_drop hi)).lR 1 rfl) HA22.out).mono ?_
  rintro e W' ⟨v, rfl, hr, hb⟩
  obtain ⟨Aq23, cq23, rfl⟩ := Kd.R_slice hr
  refine Fl.addR hi (Kd.R_mono hr (fun _ _ => trivial)) hb ?_
  clear hr
  clear hi hb hE
  simp only [Act.put, Fl.z1, Fl.z2, Fl.z3]
  refine Fl.take (some 39) (v := .tuple #[.agg #[.slice Aq23 x20.length cq23], .bool x21]) rfl rfl (Or.inl ⟨by rfl, fun _ _ => by rfl⟩) ?_
  simp only [Act.put, Fl.z1, Fl.z2, Fl.z3]
  refine Fl.take (some 43) (v := .agg #[.slice Aq23 x20.length cq23]) rfl rfl (Or.inl ⟨by rfl, fun _ _ => by rfl⟩) ?_
  simp only [Act.put, Fl.z1, Fl.z2, Fl.z3]
  refine Fl.take (some 44) (v := .bool x21) rfl rfl (Or.inl ⟨by rfl, fun _ _ => by rfl⟩) ?_
  simp only [Act.put, Fl.z1, Fl.z2, Fl.z3]
  refine Fl.var (N := 10) (cs := #[.slice none 0 0]) (t := 32) ⟨_, rfl, rfl, fun _ => rfl, fun e w => by go_simp⟩ (fun b24 => ?_)
  simp only [Act.put, Fl.z1, Fl.z2, Fl.z3]
  refine Fl.store 0 #[.slice Aq23 x20.length cq23] rfl rfl rfl rfl _ _ _ rfl rfl rfl (by rfl) rfl (by kernel_rfl) (by simp [Value.oneCell']) ?_
  refine Fl.take (some 11) (v := .bool x21) rfl rfl (Or.inl ⟨by rfl, fun _ _ => by rfl⟩) ?_
  simp only [Act.put, Fl.z1, Fl.z2, Fl.z3]
  refine Fl.stop (fun W hi => ?_)
  replace HI := Lib.hid hi
  clear hi
  try clear hn_
  go_upto_region 12 with (fail)
  refine Fl.startL [.take 0, .take 1, .one 2, .take 3, .take 4, .take 5, .take 6, .take 7, .take 8] (by decide) HI.out ?_
  refine Fl.take (some 45) (v := .agg #[.slice Aq23 x20.length cq23]) rfl rfl (Fl.ld 0 rfl (by rfl) _ _ rfl rfl Try.underlying32 rfl (by kernel_rfl)) ?_
  simp only [Act.put, Fl.z1, Fl.z2, Fl.z3]
  refine Fl.take (some 46) (v := .agg #[.slice Aq14 x11.length cq14]) rfl rfl (Fl.ld 9 rfl (by rfl) _ _ rfl rfl Try.underlying32 rfl (by kernel_rfl)) ?_
  simp only [Act.put, Fl.z1, Fl.z2, Fl.z3]
  refine Fl.call (some 47) Try.func18 (by kernel_rfl) rfl #[.agg #[.slice Aq23 x20.length cq23], .agg #[.slice Aq14 x11.length cq14]] rfl rfl rfl (by rfl) rfl (fun E W hE hi => ?_)
  refine (laws_eqRope.calls k _ _ x20 _ _ x11 true W ((hE _ (Fl.inv_drop hi)).cR 1 rfl) ((hE _ (Fl.inv_drop hi)).lR 1 rfl) ((hE _ (Fl.inv_drop hi)).cR 6 rfl) ((hE _ (Fl.inv_drop hi)).lR 6 rfl) HA26.out).mono ?_
  rintro e W' ⟨rfl, hb⟩
  refine Fl.keep hi hb ?_
  clear hi hb hE
  simp only [Act.put, Fl.z1, Fl.z2, Fl.z3]
  refine Fl.take (some 48) (v := .bool false) rfl rfl (Or.inl ⟨by rfl, fun _ _ => by rfl⟩) ?_
  simp only [Act.put, Fl.z1, Fl.z2, Fl.z3]
  refine Fl.take (some 49) (v := .bool false) rfl rfl (Or.inl ⟨by rfl, fun _ _ => by rfl⟩) ?_
  simp only [Act.put, Fl.z1, Fl.z2, Fl.z3]
  refine Fl.take (some 50) (v := .bool x21) rfl rfl (Or.inl ⟨by rfl, fun _ _ => by rfl⟩) ?_
  simp only [Act.put, Fl.z1, Fl.z2, Fl.z3]
  refine Fl.take (some 51) (v := .bool x21) rfl rfl (Or.inl ⟨by rfl, fun _ _ => by rfl⟩) ?_
  simp only [Act.put, Fl.z1, Fl.z2, Fl.z3]
  refine Fl.take (some 52) (v := .bool false) rfl rfl (Or.inl ⟨by rfl, fun _ _ => by go_simp⟩) ?_
  simp only [Act.put, Fl.z1, Fl.z2, Fl.z3]
  refine Fl.take (some 53) (v := .bool false) rfl rfl (Or.inl ⟨by rfl, fun _ _ => by rfl⟩) ?_
  simp only [Act.put, Fl.z1, Fl.z2, Fl.z3]
  refine Fl.stop (fun W hi => ?_)
  replace HI := Lib.hid hi
  clear hi
  try clear hn_
  go_upto_region 14 with (fail)
  refine Fl.start [([],[]),([],[]),([1],[1]),([0,2,2],[0,2]),([3],[3])] [] 6 [.take 0, .take 1, .one 2, .one 3, .take 4] [] (by kernel_rfl) (by kernel_rfl) (by decide) (by decide) (by kernel_rfl) (by kernel_rfl) Fl.mk0 HI.out ?_
  refine Fl.take (some 54) (v := .agg #[.slice Aq16 x5.length cq16]) rfl rfl (Fl.ld 4 rfl (by rfl) _ _ rfl rfl Try.underlying35 rfl (by kernel_rfl)) ?_
  simp only [Act.put, Fl.z1, Fl.z2, Fl.z3]
  refine Fl.take (some 55) (v := .agg #[.slice A0_0 l0_0.length c0_0]) rfl rfl (Fl.ld 11 rfl (by rfl) _ _ rfl rfl Try.underlying24 rfl (by kernel_rfl)) ?_
  simp only [Act.put, Fl.z1, Fl.z2, Fl.z3]
  refine Fl.call (some 56) Try.func15 (by kernel_rfl) rfl #[.agg #[.slice A0_0 l0_0.length c0_0]] rfl rfl rfl (by rfl) rfl (fun E W hE hi => ?_)
  refine (laws_toMemory.calls k _ _ l0_0 x5 W (Kd.C_below HR0_0.out hi.bel) HC0_0.out HA6.out).mono ?_
  rintro e W' ⟨v, rfl, hr, hb⟩
  obtain ⟨Aq27, cq27, rfl⟩ := Kd.S_slice hr
  refine Fl.addS hi (Kd.S_mono hr (fun _ _ => trivial)) hb ?_
  clear hr
  clear hi hb hE
  simp only [Act.put, Fl.z1, Fl.z2, Fl.z3]
  refine Fl.call (some 57) Try.func19 (by kernel_rfl) rfl #[.agg #[.slice Aq16 x5.length cq16], .agg #[.slice Aq27 x5.length cq27]] rfl rfl rfl (by rfl) rfl (fun E W hE hi => ?_)
  refine (laws_eqMemory.calls k _ _ x5 _ _ x5 true W ((hE _ (Fl.inv_drop hi)).cS 5 rfl) ((hE _ (Fl.inv_drop hi)).lS 5 rfl) (hi.cS 0 rfl) (hi.lS 0 rfl) HA29.out).mono ?_
  rintro e W' ⟨rfl, hb⟩
  refine Fl.keep hi hb ?_
  clear hi hb hE
  simp only [Act.put, Fl.z1, Fl.z2, Fl.z3]
  refine Fl.take (some 58) (v := .bool false) rfl rfl (Or.inl ⟨by rfl, fun _ _ => by rfl⟩) ?_
  simp only [Act.put, Fl.z1, Fl.z2, Fl.z3]
  refine Fl.fin0 ?_
  refine Fl.stopN (fun W hi => ?_)
  replace HI := Lib.hid hi
  clear hi
  try clear hn_
  go_upto_region 16 with (fail)
  refine Fl.start [([],[]),([],[]),([1],[1]),([0,2,2],[0,2]),([3],[3])] [] 6 [.take 0, .take 1, .one 2, .one 3, .take 4] [] (by kernel_rfl) (by kernel_rfl) (by decide) (by decide) (by kernel_rfl) (by kernel_rfl) Fl.mk0 HI.out ?_
  refine Fl.take (some 59) (v := .agg #[.slice Aq18 x8.length cq18]) rfl rfl (Fl.ld 3 rfl (by rfl) _ _ rfl rfl Try.underlying32 rfl (by kernel_rfl)) ?_
  simp only [Act.put, Fl.z1, Fl.z2, Fl.z3]
  refine Fl.take (some 60) (v := .agg #[.slice A1_0 l1_0.length c1_0]) rfl rfl (Fl.ld 11 rfl (by rfl) _ _ rfl rfl Try.underlying27 rfl (by kernel_rfl)) ?_
  simp only [Act.put, Fl.z1, Fl.z2, Fl.z3]
  refine Fl.call (some 61) Try.func16 (by kernel_rfl) rfl #[.agg #[.slice A1_0 l1_0.length c1_0]] rfl rfl rfl (by rfl) rfl (fun E W hE hi => ?_)
  refine (laws_toRope.calls k _ _ l1_0 x8 W (Kd.C_below HR1_0.out hi.bel) HC1_0.out HA9.out).mono ?_
  rintro e W' ⟨v, rfl, hr, hb⟩
  obtain ⟨Aq30, cq30, rfl⟩ := Kd.R_slice hr
  refine Fl.addR hi (Kd.R_mono hr (fun _ _ => trivial)) hb ?_
  clear hr
  clear hi hb hE
  simp only [Act.put, Fl.z1, Fl.z2, Fl.z3]
  refine Fl.call (some 62) Try.func18 (by kernel_rfl) rfl #[.agg #[.slice Aq18 x8.length cq18], .agg #[.slice Aq30 x8.length cq30]] rfl rfl rfl (by rfl) rfl (fun E W hE hi => ?_)
  refine (laws_eqRope.calls k _ _ x8 _ _ x8 true W ((hE _ (Fl.inv_drop hi)).cR 4 rfl) ((hE _ (Fl.inv_drop hi)).lR 4 rfl) (hi.cR 0 rfl) (hi.lR 0 rfl) HA32.out).mono ?_
  rintro e W' ⟨rfl, hb⟩
  refine Fl.keep hi hb ?_
  clear hi hb hE
  simp only [Act.put, Fl.z1, Fl.z2, Fl.z3]
  refine Fl.take (some 63) (v := .bool false) rfl rfl (Or.inl ⟨by rfl, fun _ _ => by rfl⟩) ?_
  simp only [Act.put, Fl.z1, Fl.z2, Fl.z3]
  refine Fl.fin0 ?_
  refine Fl.stopN (fun W hi => ?_)
  replace HI := Lib.hid hi
  clear hi
  try clear hn_
  go_upto_region 19 with (fail)
  refine Fl.startW [.one 0, .take 1, .one 2, .take 3] (by decide) HI.out ?_
  refine Fl.ldF (some 64) 6 rfl rfl rfl (by rfl) _ _ rfl rfl Try.underlying35 rfl (by kernel_rfl) ?_
  simp only [Act.put, Fl.z1, Fl.z2, Fl.z3]
  refine Fl.take (some 65) (v := .int .i64 1) rfl rfl (Or.inl ⟨by rfl, fun _ _ => by rfl⟩) ?_
  simp only [Act.put, Fl.z1, Fl.z2, Fl.z3]
  refine Fl.call (some 66) Try.func20 (by kernel_rfl) rfl #[.agg #[.slice Aq16 x5.length cq16], .int .i64 1] rfl rfl rfl (by rfl) rfl (fun E W hE hi => ?_)
  refine Fl.markS 7 rfl hi (fun S hS => laws_markMemory.calls k S _ _ _ _ _ _ hi.bel hS HA34.out) ?_
  clear hi hE
  simp only [Act.put, Fl.z1, Fl.z2, Fl.z3]
  refine Fl.take (some 12) (v := .int .i64 x33) rfl rfl (Or.inl ⟨by rfl, fun _ _ => by rfl⟩) ?_
  simp only [Act.put, Fl.z1, Fl.z2, Fl.z3]
  refine Fl.stopW (fun W hi => ?_)
  replace HI := Lib.hid hi
  clear hi
  try clear hn_
  go_upto_region 20 with (fail)
  refine Fl.startW [.one 0, .take 1, .one 2, .take 3] (by decide) HI.out ?_
  refine Fl.ldF (some 67) 4 rfl rfl rfl (by rfl) _ _ rfl rfl Try.underlying32 rfl (by kernel_rfl) ?_
  simp only [Act.put, Fl.z1, Fl.z2, Fl.z3]
  refine Fl.take (some 68) (v := .int .i64 x33) rfl rfl (Or.inl ⟨by rfl, fun _ _ => by rfl⟩) ?_
  simp only [Act.put, Fl.z1, Fl.z2, Fl.z3]
  refine Fl.call (some 69) Try.func21 (by kernel_rfl) rfl #[.agg #[.slice Aq18 x8.length cq18], .int .i64 x33] rfl rfl rfl (by rfl) rfl (fun E W hE hi => ?_)
  refine Fl.markR 5 rfl hi rfl (fun S hS => laws_markRope.calls k S _ _ _ _ _ _ _ hi.bel hS HA37.out) ?_
  clear hi hE
  simp only [Act.put, Fl.z1, Fl.z2, Fl.z3]
  refine Fl.take (some 12) (v := .int .i64 x35) rfl rfl (Or.inl ⟨by rfl, fun _ _ => by rfl⟩) ?_
  simp only [Act.put, Fl.z1, Fl.z2, Fl.z3]
  refine Fl.stopW (fun W hi => ?_)
  replace HI := Lib.hid hi
  clear hi
  try clear hn_
  go_upto_region 21 with (fail)
  refine Fl.startL [.take 0, .take 1, .take 2, .take 3, .take 4, .one 5, .take 6, .take 7, .take 8, .take 9, .take 10, .take 11, .take 12] (by decide) HI.out ?_
  refine Fl.take (some 70) (v := .int .i64 x35) rfl rfl (Or.inl ⟨by rfl, fun _ _ => by rfl⟩) ?_
  simp only [Act.put, Fl.z1, Fl.z2, Fl.z3]
  refine Fl.take (some 71) (v := .bool false) rfl rfl (Or.inl ⟨by rfl, fun _ _ => by have h_ := decide_eq_false HNx35.out; go_simp⟩) ?_
  simp only [Act.put, Fl.z1, Fl.z2, Fl.z3]
  refine Fl.take (some 72) (v := .bool false) rfl rfl (Or.inl ⟨by rfl, fun _ _ => by rfl⟩) ?_
  simp only [Act.put, Fl.z1, Fl.z2, Fl.z3]
  refine Fl.take (some 73) (v := .agg #[.slice Aq23 x20.length cq23]) rfl rfl (Fl.ld 2 rfl (by rfl) _ _ rfl rfl Try.underlying32 rfl (by kernel_rfl)) ?_
  simp only [Act.put, Fl.z1, Fl.z2, Fl.z3]
  refine Fl.take (some 74) (v := .agg #[.slice Aq14 x11.length cq14]) rfl rfl (Fl.ld 11 rfl (by rfl) _ _ rfl rfl Try.underlying32 rfl (by kernel_rfl)) ?_
  simp only [Act.put, Fl.z1, Fl.z2, Fl.z3]
  refine Fl.call (some 75) Try.func18 (by kernel_rfl) rfl #[.agg #[.slice Aq23 x20.length cq23], .agg #[.slice Aq14 x11.length cq14]] rfl rfl rfl (by rfl) rfl (fun E W hE hi => ?_)
  refine (laws_eqRope.calls k _ _ x20 _ _ x11 true W ((hE _ (Fl.inv_drop hi)).cR 3 rfl) ((hE _ (Fl.inv_drop hi)).lR 3 rfl) ((hE _ (Fl.inv_drop hi)).cR 8 rfl) ((hE _ (Fl.inv_drop hi)).lR 8 rfl) HA26.out).mono ?_
  rintro e W' ⟨rfl, hb⟩
  refine Fl.keep hi hb ?_
  clear hi hb hE
  simp only [Act.put, Fl.z1, Fl.z2, Fl.z3]
  refine Fl.take (some 76) (v := .bool false) rfl rfl (Or.inl ⟨by rfl, fun _ _ => by rfl⟩) ?_
  simp only [Act.put, Fl.z1, Fl.z2, Fl.z3]
  refine Fl.take (some 77) (v := .bool false) rfl rfl (Or.inl ⟨by rfl, fun _ _ => by rfl⟩) ?_
  simp only [Act.put, Fl.z1, Fl.z2, Fl.z3]
  refine Fl.take (some 78) (v := .bool false) rfl rfl (Or.inl ⟨by rfl, fun _ _ => by rfl⟩) ?_
  simp only [Act.put, Fl.z1, Fl.z2, Fl.z3]
  refine Fl.take (some 79) (v := .bool x21) rfl rfl (Or.inl ⟨by rfl, fun _ _ => by rfl⟩) ?_
  simp only [Act.put, Fl.z1, Fl.z2, Fl.z3]
  refine Fl.take (some 80) (v := .bool x21) rfl rfl (Or.inl ⟨by rfl, fun _ _ => by rfl⟩) ?_
  simp only [Act.put, Fl.z1, Fl.z2, Fl.z3]
  refine Fl.take (some 81) (v := .bool false) rfl rfl (Or.inl ⟨by rfl, fun _ _ => by go_simp⟩) ?_
  simp only [Act.put, Fl.z1, Fl.z2, Fl.z3]
  refine Fl.take (some 82) (v := .bool false) rfl rfl (Or.inl ⟨by rfl, fun _ _ => by rfl⟩) ?_
  simp only [Act.put, Fl.z1, Fl.z2, Fl.z3]
  refine Fl.stop (fun W hi => ?_)
  replace HI := Lib.hid hi
  clear hi
  try clear hn_
  go_upto_region 24 with (fail)
  refine Fl.startW [.one 0, .take 1, .one 2, .take 3] (by decide) HI.out ?_
  refine Fl.ldF (some 83) 2 rfl rfl rfl (by rfl) _ _ rfl rfl Try.underlying32 rfl (by kernel_rfl) ?_
  simp only [Act.put, Fl.z1, Fl.z2, Fl.z3]
  refine Fl.take (some 84) (v := .int .i64 1) rfl rfl (Or.inl ⟨by rfl, fun _ _ => by rfl⟩) ?_
  simp only [Act.put, Fl.z1, Fl.z2, Fl.z3]
  refine Fl.call (some 85) Try.func21 (by kernel_rfl) rfl #[.agg #[.slice Aq23 x20.length cq23], .int .i64 1] rfl rfl rfl (by rfl) rfl (fun E W hE hi => ?_)
  refine Fl.markR 3 rfl hi rfl (fun S hS => laws_markRope.calls k S _ _ _ _ _ _ _ hi.bel hS HA40.out) ?_
  clear hi hE
  simp only [Act.put, Fl.z1, Fl.z2, Fl.z3]
  refine Fl.take (some 13) (v := .int .i64 x41) rfl rfl (Or.inl ⟨by rfl, fun _ _ => by rfl⟩) ?_
  simp only [Act.put, Fl.z1, Fl.z2, Fl.z3]
  refine Fl.stopW (fun W hi => ?_)
  replace HI := Lib.hid hi
  clear hi
  try clear hn_
  go_upto_region 26 with (fail)
  refine Fl.startL [.take 0, .take 1, .one 2, .take 3] (by decide) HI.out ?_
  refine Fl.take (some 86) (v := .agg #[.slice Aq23 x20.length cq23]) rfl rfl (Fl.ld 2 rfl (by rfl) _ _ rfl rfl Try.underlying32 rfl (by kernel_rfl)) ?_
  simp only [Act.put, Fl.z1, Fl.z2, Fl.z3]
  refine Fl.take (some 87) (v := .int .i64 1) rfl rfl (Or.inl ⟨by rfl, fun _ _ => by rfl⟩) ?_
  simp only [Act.put, Fl.z1, Fl.z2, Fl.z3]
  refine Fl.call (some 88) Try.func22 (by kernel_rfl) rfl #[.agg #[.slice Aq23 x20.length cq23], .int .i64 1] rfl rfl rfl (by rfl) rfl (fun E W hE hi => ?_)
  have hl_ := ((hE _ (Fl.inv_drop hi)).reads 3 rfl).1
  have hc_ := laws_heldRope.calls k _ _ x39 1 x41 W ((hE _ (Fl.inv_drop hi)).reads 3 rfl).2.2 (hl_ ▸ ((hE _ (Fl.inv_drop hi)).reads 3 rfl).2.1) HA42.out
  rw [← hl_] at hc_
  refine hc_.mono ?_
  clear hc_ hl_
  rintro e W' ⟨rfl, hb⟩
  refine Fl.keep hi hb ?_
  clear hi hb hE
  simp only [Act.put, Fl.z1, Fl.z2, Fl.z3]
  refine Fl.take (some 14) (v := .int .i64 x41) rfl rfl (Or.inl ⟨by rfl, fun _ _ => by rfl⟩) ?_
  simp only [Act.put, Fl.z1, Fl.z2, Fl.z3]
  refine Fl.stop (fun W hi => ?_)
  replace HI := Lib.hid hi
  clear hi
  try clear hn_
  have hn_ := decide_eq_false HNx41.out
  go_upto_region 31 with (fail)
  refine Fl.start [([],[]),([0],[0]),([],[]),([2,1],[2]),([1,3,3],[1,3]),([4],[4]),([5],[5]),([5],[5]),([],[]),([8,6,4,0,1,2,3,4,5,6,8],[6,8]),([7,9,0,1,2,3,4,5,6,7,8,9],[7])] [⟨8, 15, #[.slice none 0 0], 32⟩] 10 [.take 0, .take 2, .one 1, .one 3, .one 4, .take 5, .take 6, .take 7] [.one 9, .take 10] (by kernel_rfl) (by kernel_rfl) (by decide) (by decide) (by kernel_rfl) (by kernel_rfl) (Fl.mkc ⟨_, rfl, rfl, fun _ => rfl, fun e w => by go_simp⟩ Fl.mk0) HI.out ?_
  refine Fl.take (some 95) (v := .agg #[.slice A0_0 l0_0.length c0_0]) rfl rfl (Fl.ld 13 rfl (by rfl) _ _ rfl rfl Try.underlying24 rfl (by kernel_rfl)) ?_
  simp only [Act.put, Fl.z1, Fl.z2, Fl.z3]
  refine Fl.take (some 97) (v := .agg #[.slice A1_0 l1_0.length c1_0]) rfl rfl (Fl.ld 12 rfl (by rfl) _ _ rfl rfl Try.underlying27 rfl (by kernel_rfl)) ?_
  simp only [Act.put, Fl.z1, Fl.z2, Fl.z3]
  refine Fl.call (some 96) Try.func15 (by kernel_rfl) rfl #[.agg #[.slice A0_0 l0_0.length c0_0]] rfl rfl rfl (by rfl) rfl (fun E W hE hi => ?_)
  refine (laws_toMemory.calls k _ _ l0_0 x5 W (Kd.C_below HR0_0.out hi.bel) HC0_0.out HA6.out).mono ?_
  rintro e W' ⟨v, rfl, hr, hb⟩
  obtain ⟨Aq43, cq43, rfl⟩ := Kd.S_slice hr
  refine Fl.addS hi (Kd.S_mono hr (fun _ _ => trivial)) hb ?_
  clear hr
  clear hi hb hE
  simp only [Act.put, Fl.z1, Fl.z2, Fl.z3]
  refine Fl.call (some 98) Try.func16 (by kernel_rfl) rfl #[.agg #[.slice A1_0 l1_0.length c1_0]] rfl rfl rfl (by rfl) rfl (fun E W hE hi => ?_)
  refine (laws_toRope.calls k _ _ l1_0 x8 W (Kd.C_below HR1_0.out hi.bel) HC1_0.out HA9.out).mono ?_
  rintro e W' ⟨v, rfl, hr, hb⟩
  obtain ⟨Aq44, cq44, rfl⟩ := Kd.R_slice hr
  refine Fl.addR hi (Kd.R_mono hr (fun _ _ => trivial)) hb ?_
  clear hr
  clear hi hb hE
  simp only [Act.put, Fl.z1, Fl.z2, Fl.z3]
  refine Fl.call (some 99) Try.func26 (by kernel_rfl) rfl #[.agg #[.slice Aq43 x5.length cq43], .agg #[.slice Aq44 x8.length cq44]] rfl rfl rfl (by rfl) rfl (fun E W hE hi => ?_)
  refine (impl_MergeParts.calls k _ _ x5 _ _ x8 x20 x21 W (hi.cS 1 rfl) (hi.lS 1 rfl) (hi.cR 0 rfl) (hi.lR 0 rfl) HA22.out).mono ?_
  rintro e W' ⟨v, rfl, hr, hb⟩
  obtain ⟨Aq45, cq45, rfl⟩ := Kd.R_slice hr
  refine Fl.addR hi (Kd.R_mono hr (fun _ _ => trivial)) hb ?_
  clear hr
  clear hi hb hE
  simp only [Act.put, Fl.z1, Fl.z2, Fl.z3]
  refine Fl.take (some 94) (v := .tuple #[.agg #[.slice Aq45 x20.length cq45], .bool x21]) rfl rfl (Or.inl ⟨by rfl, fun _ _ => by rfl⟩) ?_
  simp only [Act.put, Fl.z1, Fl.z2, Fl.z3]
  refine Fl.take (some 100) (v := .agg #[.slice Aq45 x20.length cq45]) rfl rfl (Or.inl ⟨by rfl, fun _ _ => by rfl⟩) ?_
  simp only [Act.put, Fl.z1, Fl.z2, Fl.z3]
  refine Fl.take (some 101) (v := .bool x21) rfl rfl (Or.inl ⟨by rfl, fun _ _ => by rfl⟩) ?_
  simp only [Act.put, Fl.z1, Fl.z2, Fl.z3]
  refine Fl.fin1 (fun b46 => ?_)
  simp only [Act.put, Fl.z1, Fl.z2, Fl.z3]
  refine Fl.store 3 #[.slice Aq45 x20.length cq45] rfl rfl rfl rfl _ _ _ rfl rfl rfl (by rfl) rfl (by kernel_rfl) (by simp [Value.oneCell']) ?_
  refine Fl.take (some 16) (v := .bool x21) rfl rfl (Or.inl ⟨by rfl, fun _ _ => by rfl⟩) ?_
  simp only [Act.put, Fl.z1, Fl.z2, Fl.z3]
  refine Fl.stopN (fun W hi => ?_)
  replace HI := Lib.hid hi
  clear hi
  try clear hn_
  go_upto_region 32 with (fail)
  refine Fl.startL [.take 0, .take 1, .one 2, .take 3, .take 4, .take 5, .take 6, .take 7, .take 8] (by decide) HI.out ?_
  refine Fl.take (some 102) (v := .agg #[.slice Aq45 x20.length cq45]) rfl rfl (Fl.ld 3 rfl (by rfl) _ _ rfl rfl Try.underlying32 rfl (by kernel_rfl)) ?_
  simp only [Act.put, Fl.z1, Fl.z2, Fl.z3]
  refine Fl.take (some 103) (v := .agg #[.slice Aq14 x11.length cq14]) rfl rfl (Fl.ld 15 rfl (by rfl) _ _ rfl rfl Try.underlying32 rfl (by kernel_rfl)) ?_
  simp only [Act.put, Fl.z1, Fl.z2, Fl.z3]
  refine Fl.call (some 104) Try.func18 (by kernel_rfl) rfl #[.agg #[.slice Aq45 x20.length cq45], .agg #[.slice Aq14 x11.length cq14]] rfl rfl rfl (by rfl) rfl (fun E W hE hi => ?_)
  refine (laws_eqRope.calls k _ _ x20 _ _ x11 true W ((hE _ (Fl.inv_drop hi)).cR 0 rfl) ((hE _ (Fl.inv_drop hi)).lR 0 rfl) ((hE _ (Fl.inv_drop hi)).cR 12 rfl) ((hE _ (Fl.inv_drop hi)).lR 12 rfl) HA26.out).mono ?_
  rintro e W' ⟨rfl, hb⟩
  refine Fl.keep hi hb ?_
  clear hi hb hE
  simp only [Act.put, Fl.z1, Fl.z2, Fl.z3]
  refine Fl.take (some 105) (v := .bool false) rfl rfl (Or.inl ⟨by rfl, fun _ _ => by rfl⟩) ?_
  simp only [Act.put, Fl.z1, Fl.z2, Fl.z3]
  refine Fl.take (some 106) (v := .bool false) rfl rfl (Or.inl ⟨by rfl, fun _ _ => by rfl⟩) ?_
  simp only [Act.put, Fl.z1, Fl.z2, Fl.z3]
  refine Fl.take (some 107) (v := .bool x21) rfl rfl (Or.inl ⟨by rfl, fun _ _ => by rfl⟩) ?_
  simp only [Act.put, Fl.z1, Fl.z2, Fl.z3]
  refine Fl.take (some 108) (v := .bool x21) rfl rfl (Or.inl ⟨by rfl, fun _ _ => by rfl⟩) ?_
  simp only [Act.put, Fl.z1, Fl.z2, Fl.z3]
  refine Fl.take (some 109) (v := .bool false) rfl rfl (Or.inl ⟨by rfl, fun _ _ => by go_simp⟩) ?_
  simp only [Act.put, Fl.z1, Fl.z2, Fl.z3]
  refine Fl.take (some 110) (v := .bool false) rfl rfl (Or.inl ⟨by rfl, fun _ _ => by rfl⟩) ?_
  simp only [Act.put, Fl.z1, Fl.z2, Fl.z3]
  refine Fl.stop (fun W hi => ?_)
  replace HI := Lib.hid hi
  clear hi
  try clear hn_
  go_upto_region 35 with (fail)
  refine Fl.startL [.take 0, .take 1, .one 2, .take 3] (by decide) HI.out ?_
  refine Fl.take (some 111) (v := .agg #[.slice Aq23 x20.length cq23]) rfl rfl (Fl.ld 6 rfl (by rfl) _ _ rfl rfl Try.underlying32 rfl (by kernel_rfl)) ?_
  simp only [Act.put, Fl.z1, Fl.z2, Fl.z3]
  refine Fl.take (some 112) (v := .int .i64 1) rfl rfl (Or.inl ⟨by rfl, fun _ _ => by rfl⟩) ?_
  simp only [Act.put, Fl.z1, Fl.z2, Fl.z3]
  refine Fl.call (some 113) Try.func22 (by kernel_rfl) rfl #[.agg #[.slice Aq23 x20.length cq23], .int .i64 1] rfl rfl rfl (by rfl) rfl (fun E W hE hi => ?_)
  have hl_ := ((hE _ (Fl.inv_drop hi)).reads 7 rfl).1
  have hc_ := laws_heldRope.calls k _ _ x39 1 x41 W ((hE _ (Fl.inv_drop hi)).reads 7 rfl).2.2 (hl_ ▸ ((hE _ (Fl.inv_drop hi)).reads 7 rfl).2.1) HA42.out
  rw [← hl_] at hc_
  refine hc_.mono ?_
  clear hc_ hl_
  rintro e W' ⟨rfl, hb⟩
  refine Fl.keep hi hb ?_
  clear hi hb hE
  simp only [Act.put, Fl.z1, Fl.z2, Fl.z3]
  refine Fl.take (some 14) (v := .int .i64 x41) rfl rfl (Or.inl ⟨by rfl, fun _ _ => by rfl⟩) ?_
  simp only [Act.put, Fl.z1, Fl.z2, Fl.z3]
  refine Fl.stop (fun W hi => ?_)
  replace HI := Lib.hid hi
  clear hi
  try clear hn_
  have hn_ := decide_eq_false HNx41.out
  go_wp2
  go_ret
  exact ⟨rfl, HI.out.bel⟩

end Go.Proofs.Ytldkbeccpheckab.PFnExactMergeParts
