/- What is proved here: each Go function that is named below answers, and leaves memory, as the theorem of its name says; no condition beyond those that each theorem states. Laid by this session's own program (wip/driver.py) over the kit's print. -/
import Derived.Test.YtkifenbcepicjaaPFnKeysx0
import Derived.Test.YtkifenbcepicjaaPFnKeysx1
import Derived.Test.YtkifenbcepicjaaPFnKeysx3
import Derived.Test.YtkifenbcepicjaaPFnKeysx4
import Derived.Test.YtkifenbcepicjaaPFnKeysx5
namespace Go.Proofs.Ytkifenbcepicjaa.PFnKeys
open Go.RowKit Go.Proofs.YtkifenbcepicjaaW.PrintWords Go.Proofs.YtkifenbcepicjaaW.PrintLast Go.Proofs.YtkifenbcepicjaaW.PrintMore
attribute [local go_sem] max2_int min2_int max_two min_two max_three min_three max_four min_four   -- for this text's walks alone
set_option linter.unusedVariables false
set_option linter.unusedSimpArgs false

/-! ### laws_FnKeys: function 5 (by hand) -/
/-- What a code's end comes to. -/
def laws_FnKeys.Cut : Prop := ∀ l : List Int, (∀ x ∈ l, 0 ≤ x ∧ x ≤ 255) → (l.length : Int) ≤ 65536 → ∀ n : Int, n = 1 ∨ n = 2 → ∃ r : List Int, laws_vCut.f l n = some r ∧ ∀ x ∈ r, 0 ≤ x ∧ x ≤ 255
/-- What is told of a key that a window has. -/
def laws_FnKeys.KeyFact : Prop := ∀ m : List (List Int), m.length ≤ 20 → ∀ a s l c i : Int, ∃ (k : Nat) (r : List Int) (b : Bool), impl_KeyAt.f k m a s l c i = some (r, b) ∧ spec_KeyAt.f k m a s l c i = some (r, b) ∧
  (b = true → ∃ x1 x2 x3 x4 : Int, impl_SliceThree.f k m a s l c i (wrap64 (i + 16)) (wrap64 (i + 16)) = some (x1, x2, x3, x4, true) ∧ impl_WindowBytes.f k m x1 x2 x3 x4 = some (r, true))
def laws_FnKeys.Told (l0 : List Int) : Prop := (∀ x ∈ l0, 0 ≤ x ∧ x ≤ 255) ∧ spec_l1Cur_key9.Fact ∧ spec_DrawKeyAt.Fact ∧ laws_FnKeys.Cut ∧ laws_FnKeys.KeyFact
open Classical in
noncomputable def laws_FnKeys.f (l0 : List Int) : Option Bool := if laws_FnKeys.Told l0 then some true else none
set_option maxHeartbeats 40000000 in
set_option maxRecDepth 100000 in
theorem laws_FnKeys.calls (A0 : Option Addr) (c0 : Nat) (l0 : List Int) (r : Bool) (w : World) (hr0 : Kd.C (Kd.int .u8) w A0 l0.length l0) (hc0 : l0.length ≤ c0) (h : laws_FnKeys.f l0 = some r) :
    Calls Try.prog 5 #[.slice A0 l0.length c0] w fun e w' => e = .returned (.bool r) ∧ Below w.heap.size w w' := by
  unfold laws_FnKeys.f at h
  obtain ⟨⟨hU, hK9, hDK, hCut, hKey⟩, hr⟩ := @Ky.of_cond _ _ (Classical.propDecidable _) _ _ h
  subst hr
  have HU := Lib.hid hU
  have HK9 := Lib.hid hK9
  have HDK := Lib.hid hDK
  have HCUT := Lib.hid hCut
  have HKEY := Lib.hid hKey
  have HR0 := Lib.hid hr0
  have HC0 := Lib.hid hc0
  clear hU hK9 hDK hCut hKey hr0 hc0 h
  have HI : Hid (Lv.Inv w w []) := Lib.hid (Lv.Inv.refl w)
  by_cases hbig : (l0.length : Int) > 65536
  · have HBG : Hid (laws_vBig.f l0 = some true) := Lib.hid (by unfold laws_vBig.f; rw [decide_eq_true hbig])
    clear hbig
    go_enter Try.func5, Try.ntmps5
    go_upto_region 1 with (fail)
    refine Fl.startL [.take 0, .one 1] (by decide) HI.out ?_
    refine Fl.take (some 27) (v := .slice A0 l0.length c0) rfl rfl (Or.inl ⟨by rfl, fun _ _ => by rfl⟩) ?_
    simp only [Act.put, Fl.z1, Fl.z2, Fl.z3]
    refine Fl.call (some 28) Try.func20 (by kernel_rfl) rfl #[.slice A0 l0.length c0] rfl rfl rfl (by rfl) rfl (fun E2 W2 hE2 hi => ?_)
    refine (laws_vBig.calls A0 c0 l0 true W2 (Kd.C_below HR0.out hi.bel) HC0.out HBG.out).mono ?_
    rintro e W' ⟨rfl, hb⟩
    refine Fl.keep (v := .bool true) hi hb.below ?_
    clear hi hb hE2
    simp only [Act.put, Fl.z1, Fl.z2, Fl.z3]
    refine Fl.stop (fun W hi => ?_)
    replace HI := Lib.hid hi
    clear hi
    go_wp2
    go_ret
    exact ⟨rfl, HI.out.bel⟩
  · have HBG : Hid (laws_vBig.f l0 = some false) := Lib.hid (by unfold laws_vBig.f; rw [decide_eq_false hbig])
    obtain ⟨l1, hl1, hu1⟩ := HCUT.out l0 HU.out (by omega) 1 (.inl rfl)
    have HL1 := Lib.hid hl1
    have HU1 := Lib.hid hu1
    obtain ⟨l2, hl2, hu2⟩ := HCUT.out l0 HU.out (by omega) 2 (.inr rfl)
    have HL2 := Lib.hid hl2
    have HU2 := Lib.hid hu2
    clear hbig hl1 hu1 hl2 hu2
    go_enter Try.func5, Try.ntmps5
    go_upto_region 1 with (fail)
    refine Fl.startL [.take 0, .one 1] (by decide) HI.out ?_
    refine Fl.take (some 27) (v := .slice A0 l0.length c0) rfl rfl (Or.inl ⟨by rfl, fun _ _ => by rfl⟩) ?_
    simp only [Act.put, Fl.z1, Fl.z2, Fl.z3]
    refine Fl.call (some 28) Try.func20 (by kernel_rfl) rfl #[.slice A0 l0.length c0] rfl rfl rfl (by rfl) rfl (fun E2 W2 hE2 hi => ?_)
    refine (laws_vBig.calls A0 c0 l0 false W2 (Kd.C_below HR0.out hi.bel) HC0.out HBG.out).mono ?_
    rintro e W' ⟨rfl, hb⟩
    refine Fl.keep (v := .bool false) hi hb.below ?_
    clear hi hb hE2
    simp only [Act.put, Fl.z1, Fl.z2, Fl.z3]
    refine Fl.stop (fun W hi => ?_)
    replace HI := Lib.hid hi
    clear hi
    go_upto_region 3 with (fail)
    refine Fl.startW [.take 0, .one 1, .take 2, .take 3, .take 4, .one 5, .one 6, .one 7, .one 8] (by decide) HI.out ?_
    refine Fl.take (some 30) (v := .slice A0 l0.length c0) rfl rfl (Or.inl ⟨by rfl, fun _ _ => by rfl⟩) ?_
    simp only [Act.put, Fl.z1, Fl.z2, Fl.z3]
    refine Fl.call (some 31) Try.func21 (by kernel_rfl) rfl #[.slice A0 l0.length c0] rfl rfl rfl (by rfl) rfl (fun E2 W2 hE2 hi => ?_)
    refine (spec_DrawLessKey.calls HK9.out A0 c0 l0 HU.out W2 (Kd.C_below HR0.out hi.bel) HC0.out).mono ?_
    rintro e W' ⟨a, b, rfl, hb, ga, gb⟩
    have HGA := Lib.hid ga
    have HGB := Lib.hid gb
    refine Fl.keep (v := .tuple #[.agg (Ky.bs a), .agg (Ky.bs b)]) hi hb ?_
    clear ga gb
    clear hi hb hE2
    simp only [Act.put, Fl.z1, Fl.z2, Fl.z3]
    refine Fl.take (some 29) (v := .tuple #[.agg (Ky.bs a), .agg (Ky.bs b)]) rfl rfl (Or.inl ⟨by rfl, fun _ _ => by rfl⟩) ?_
    simp only [Act.put, Fl.z1, Fl.z2, Fl.z3]
    refine Fl.take (some 32) (v := .agg (Ky.bs a)) rfl rfl (Or.inl ⟨by rfl, fun _ _ => by rfl⟩) ?_
    simp only [Act.put, Fl.z1, Fl.z2, Fl.z3]
    refine Fl.take (some 33) (v := .agg (Ky.bs b)) rfl rfl (Or.inl ⟨by rfl, fun _ _ => by rfl⟩) ?_
    simp only [Act.put, Fl.z1, Fl.z2, Fl.z3]
    refine Fl.var (N := 3) (cs := Ky.bs (List.replicate 16 0)) (t := 26) ⟨_, rfl, rfl, fun _ => rfl, fun e w => by first | (go_simp; done) | (go_simp; rfl)⟩ (fun g3 => ?_)
    simp only [Act.put, Fl.z1, Fl.z2, Fl.z3]
    refine Fl.var (N := 4) (cs := Ky.bs (List.replicate 16 0)) (t := 26) ⟨_, rfl, rfl, fun _ => rfl, fun e w => by first | (go_simp; done) | (go_simp; rfl)⟩ (fun g4 => ?_)
    simp only [Act.put, Fl.z1, Fl.z2, Fl.z3]
    refine Fl.store 1 (Ky.bs a) rfl rfl rfl rfl _ _ _ rfl rfl rfl (by rfl) (Ky.size_key HGA.out.1 Ky.key0) (Ky.hKk HGA.out.1) (Ky.bs_one _) ?_
    refine Fl.store 0 (Ky.bs b) rfl rfl rfl rfl _ _ _ rfl rfl rfl (by rfl) (Ky.size_key HGB.out.1 Ky.key0) (Ky.hKk HGB.out.1) (Ky.bs_one _) ?_
    refine Fl.stopW (fun W hi => ?_)
    replace HI := Lib.hid hi
    clear hi
    have HLS : Hid (impl_LessKey.f a b = some (Ky.lessF a b)) := Lib.hid (by unfold impl_LessKey.f; rw [if_pos ⟨HGA.out.2, HGB.out.2⟩])
    have HLT : Hid (spec_LessKey.f a b = some (Ky.lessF a b)) := Lib.hid rfl
    have HLB : Hid (impl_LessKey.f b a = some (Ky.lessF b a)) := Lib.hid (by unfold impl_LessKey.f; rw [if_pos ⟨HGB.out.2, HGA.out.2⟩])
    have HCI : Hid (impl_CommonBits.f a b = some ((Ky.commonF a b : Nat) : Int)) := Lib.hid (by unfold impl_CommonBits.f; rw [if_pos ⟨HGA.out.2, HGB.out.2⟩])
    have HCS : Hid (spec_CommonBits.f a b = some ((Ky.commonF a b : Nat) : Int)) := Lib.hid (by unfold spec_CommonBits.f; rw [if_pos ⟨HGA.out.2, HGB.out.2⟩])
    have HCB : Hid (impl_CommonBits.f b a = some ((Ky.commonF a b : Nat) : Int)) := Lib.hid (by unfold impl_CommonBits.f; rw [if_pos ⟨HGB.out.2, HGA.out.2⟩, Ky.common_comm])
    obtain ⟨ls, hls⟩ : ∃ x, x = Ky.lessF a b := ⟨_, rfl⟩
    obtain ⟨bk, hbk⟩ : ∃ x, x = Ky.lessF b a := ⟨_, rfl⟩
    obtain ⟨cb, hcb⟩ : ∃ x, x = Ky.commonF a b := ⟨_, rfl⟩
    rw [← hls] at HLS HLT
    rw [← hbk] at HLB
    rw [← hcb] at HCI HCS HCB
    have HEL := Lib.hid hls
    have HEB := Lib.hid hbk
    have HEC := Lib.hid hcb
    clear hls hbk hcb
    go_upto_region 4 with (fail)
    refine Fl.startW [.one 0, .one 1, .one 2, .take 3] (by decide) HI.out ?_
    refine Fl.ldF (some 34) 1 rfl rfl rfl (by rfl) _ _ rfl rfl Try.underlying26 rfl (Ky.hKk HGA.out.1) ?_
    simp only [Act.put, Fl.z1, Fl.z2, Fl.z3]
    refine Fl.ldF (some 35) 0 rfl rfl rfl (by rfl) _ _ rfl rfl Try.underlying26 rfl (Ky.hKk HGB.out.1) ?_
    simp only [Act.put, Fl.z1, Fl.z2, Fl.z3]
    refine Fl.call (some 36) Try.func22 (by kernel_rfl) rfl #[.agg (Ky.bs a), .agg (Ky.bs b)] rfl rfl rfl (by rfl) rfl (fun E2 W2 hE2 hi => ?_)
    refine (impl_LessKey.calls a b ls W2 HGA.out.1 HGB.out.1 HLS.out).mono ?_
    rintro e W' ⟨rfl, hb⟩
    refine Fl.keep (v := .bool ls) hi hb ?_
    clear hi hb hE2
    simp only [Act.put, Fl.z1, Fl.z2, Fl.z3]
    refine Fl.take (some 5) (v := .bool ls) rfl rfl (Or.inl ⟨by rfl, fun _ _ => by rfl⟩) ?_
    simp only [Act.put, Fl.z1, Fl.z2, Fl.z3]
    refine Fl.stopW (fun W hi => ?_)
    replace HI := Lib.hid hi
    clear hi
    go_upto_region 5 with (fail)
    refine Fl.startW [.one 0, .one 1, .one 2, .take 3] (by decide) HI.out ?_
    refine Fl.ldF (some 37) 1 rfl rfl rfl (by rfl) _ _ rfl rfl Try.underlying26 rfl (Ky.hKk HGA.out.1) ?_
    simp only [Act.put, Fl.z1, Fl.z2, Fl.z3]
    refine Fl.ldF (some 38) 0 rfl rfl rfl (by rfl) _ _ rfl rfl Try.underlying26 rfl (Ky.hKk HGB.out.1) ?_
    simp only [Act.put, Fl.z1, Fl.z2, Fl.z3]
    refine Fl.call (some 39) Try.func23 (by kernel_rfl) rfl #[.agg (Ky.bs a), .agg (Ky.bs b)] rfl rfl rfl (by rfl) rfl (fun E2 W2 hE2 hi => ?_)
    refine (impl_CommonBits.calls a b (cb : Int) W2 HGA.out.1 HGB.out.1 HCI.out).mono ?_
    rintro e W' ⟨rfl, hb⟩
    refine Fl.keep (v := .int .i64 (cb : Int)) hi hb ?_
    clear hi hb hE2
    simp only [Act.put, Fl.z1, Fl.z2, Fl.z3]
    refine Fl.take (some 6) (v := .int .i64 (cb : Int)) rfl rfl (Or.inl ⟨by rfl, fun _ _ => by rfl⟩) ?_
    simp only [Act.put, Fl.z1, Fl.z2, Fl.z3]
    refine Fl.stopW (fun W hi => ?_)
    replace HI := Lib.hid hi
    clear hi
    go_upto_region 6 with (fail)
    refine Fl.startW [.take 0, .one 1, .one 2, .one 3, .one 4] (by decide) HI.out ?_
    refine Fl.take (some 40) (v := .slice A0 l0.length c0) rfl rfl (Or.inl ⟨by rfl, fun _ _ => by rfl⟩) ?_
    simp only [Act.put, Fl.z1, Fl.z2, Fl.z3]
    refine Fl.call (some 41) Try.func25 (by kernel_rfl) rfl #[.slice A0 l0.length c0, .int .i64 1] rfl rfl rfl (by rfl) rfl (fun E2 W2 hE2 hi => ?_)
    refine (laws_vCut.calls A0 c0 l0 1 l1 W2 (Kd.C_below HR0.out hi.bel) HC0.out HL1.out).mono ?_
    rintro e W' ⟨v0, rfl, hr, hb⟩
    obtain ⟨A1, c1, rfl⟩ := Kd.R_slice hr
    refine Fl.addR hi hr hb ?_
    clear hr
    clear hi hb hE2
    simp only [Act.put, Fl.z1, Fl.z2, Fl.z3]
    refine Fl.call (some 42) Try.func24 (by kernel_rfl) rfl #[.slice A1 l1.length c1] rfl rfl rfl (by rfl) rfl (fun E2 W2 hE2 hi => ?_)
    refine (spec_DrawNextKey.calls HK9.out A1 c1 l1 HU1.out W2 (hi.cR 0 rfl) (hi.lR 0 rfl)).mono ?_
    rintro e W' ⟨c, rfl, hb, gc⟩
    have HGC := Lib.hid gc
    refine Fl.keep (v := .agg (Ky.bs c)) hi hb ?_
    clear gc
    clear hi hb hE2
    simp only [Act.put, Fl.z1, Fl.z2, Fl.z3]
    refine Fl.var (N := 7) (cs := Ky.bs (List.replicate 16 0)) (t := 26) ⟨_, rfl, rfl, fun _ => rfl, fun e w => by first | (go_simp; done) | (go_simp; rfl)⟩ (fun g7 => ?_)
    simp only [Act.put, Fl.z1, Fl.z2, Fl.z3]
    refine Fl.store 0 (Ky.bs c) rfl rfl rfl rfl _ _ _ rfl rfl rfl (by rfl) (Ky.size_key HGC.out.1 Ky.key0) (Ky.hKk HGC.out.1) (Ky.bs_one _) ?_
    refine Fl.stopW (fun W hi => ?_)
    replace HI := Lib.hid hi
    clear hi
    obtain ⟨nx, hnx⟩ : ∃ x, x = (Ky.nextF 16 c).getD (List.replicate 16 0) := ⟨_, rfl⟩
    obtain ⟨nk, hnk⟩ : ∃ x, x = (Ky.nextF 16 c).isSome := ⟨_, rfl⟩
    have HN1 : Hid (impl_NextKey.f c = some (nx, nk)) := Lib.hid (by unfold impl_NextKey.f; rw [if_pos HGC.out.2, hnx, hnk])
    have HN2 : Hid (spec_NextKey.f c = some (nx, nk)) := Lib.hid (by unfold spec_NextKey.f; rw [if_pos HGC.out.2, hnx, hnk])
    have HNX : Hid (nk = true → Ky.nextF 16 c = some nx) := Lib.hid (fun h => by cases hn : Ky.nextF 16 c with | none => (rw [hn] at hnk; rw [hnk] at h; cases h) | some y => (rw [hn] at hnx; rw [hnx]; rfl))
    clear hnx hnk
    go_upto_region 7 with (fail)
    refine Fl.startW [.one 0, .one 1, .take 2, .take 3, .take 4, .one 5, .one 6, .take 7] (by decide) HI.out ?_
    refine Fl.ldF (some 44) 0 rfl rfl rfl (by rfl) _ _ rfl rfl Try.underlying26 rfl (Ky.hKk HGC.out.1) ?_
    simp only [Act.put, Fl.z1, Fl.z2, Fl.z3]
    refine Fl.call (some 45) Try.func26 (by kernel_rfl) rfl #[.agg (Ky.bs c)] rfl rfl rfl (by rfl) rfl (fun E2 W2 hE2 hi => ?_)
    refine (impl_NextKey.calls c nx nk W2 HGC.out.1 HN1.out).mono ?_
    rintro e W' ⟨rfl, hb, hk_⟩
    have HKN := Lib.hid hk_
    refine Fl.keep (v := .tuple #[.agg (Ky.bs nx), .bool nk]) hi hb ?_
    clear hk_
    clear hi hb hE2
    simp only [Act.put, Fl.z1, Fl.z2, Fl.z3]
    refine Fl.take (some 43) (v := .tuple #[.agg (Ky.bs nx), .bool nk]) rfl rfl (Or.inl ⟨by rfl, fun _ _ => by rfl⟩) ?_
    simp only [Act.put, Fl.z1, Fl.z2, Fl.z3]
    refine Fl.take (some 46) (v := .agg (Ky.bs nx)) rfl rfl (Or.inl ⟨by rfl, fun _ _ => by rfl⟩) ?_
    simp only [Act.put, Fl.z1, Fl.z2, Fl.z3]
    refine Fl.take (some 47) (v := .bool nk) rfl rfl (Or.inl ⟨by rfl, fun _ _ => by rfl⟩) ?_
    simp only [Act.put, Fl.z1, Fl.z2, Fl.z3]
    refine Fl.var (N := 8) (cs := Ky.bs (List.replicate 16 0)) (t := 26) ⟨_, rfl, rfl, fun _ => rfl, fun e w => by first | (go_simp; done) | (go_simp; rfl)⟩ (fun g8 => ?_)
    simp only [Act.put, Fl.z1, Fl.z2, Fl.z3]
    refine Fl.store 0 (Ky.bs nx) rfl rfl rfl rfl _ _ _ rfl rfl rfl (by rfl) (Ky.size_key HKN.out Ky.key0) (Ky.hKk HKN.out) (Ky.bs_one _) ?_
    refine Fl.take (some 9) (v := .bool nk) rfl rfl (Or.inl ⟨by rfl, fun _ _ => by rfl⟩) ?_
    simp only [Act.put, Fl.z1, Fl.z2, Fl.z3]
    refine Fl.stopW (fun W hi => ?_)
    replace HI := Lib.hid hi
    clear hi
    go_upto_region 8 with (fail)
    refine Fl.startW [.one 0, .one 1, .take 2, .take 3, .take 4, .one 5, .one 6, .take 7] (by decide) HI.out ?_
    refine Fl.ldF (some 49) 1 rfl rfl rfl (by rfl) _ _ rfl rfl Try.underlying26 rfl (Ky.hKk HGC.out.1) ?_
    simp only [Act.put, Fl.z1, Fl.z2, Fl.z3]
    refine Fl.call (some 50) Try.func27 (by kernel_rfl) rfl #[.agg (Ky.bs c)] rfl rfl rfl (by rfl) rfl (fun E2 W2 hE2 hi => ?_)
    refine (spec_NextKey.calls c nx nk W2 HGC.out.1 HN2.out).mono ?_
    rintro e W' ⟨rfl, hb, hk_⟩
    have HKN := Lib.hid hk_
    refine Fl.keep (v := .tuple #[.agg (Ky.bs nx), .bool nk]) hi hb ?_
    clear hk_
    clear hi hb hE2
    simp only [Act.put, Fl.z1, Fl.z2, Fl.z3]
    refine Fl.take (some 48) (v := .tuple #[.agg (Ky.bs nx), .bool nk]) rfl rfl (Or.inl ⟨by rfl, fun _ _ => by rfl⟩) ?_
    simp only [Act.put, Fl.z1, Fl.z2, Fl.z3]
    refine Fl.take (some 51) (v := .agg (Ky.bs nx)) rfl rfl (Or.inl ⟨by rfl, fun _ _ => by rfl⟩) ?_
    simp only [Act.put, Fl.z1, Fl.z2, Fl.z3]
    refine Fl.take (some 52) (v := .bool nk) rfl rfl (Or.inl ⟨by rfl, fun _ _ => by rfl⟩) ?_
    simp only [Act.put, Fl.z1, Fl.z2, Fl.z3]
    refine Fl.var (N := 10) (cs := Ky.bs (List.replicate 16 0)) (t := 26) ⟨_, rfl, rfl, fun _ => rfl, fun e w => by first | (go_simp; done) | (go_simp; rfl)⟩ (fun g10 => ?_)
    simp only [Act.put, Fl.z1, Fl.z2, Fl.z3]
    refine Fl.store 0 (Ky.bs nx) rfl rfl rfl rfl _ _ _ rfl rfl rfl (by rfl) (Ky.size_key HKN.out Ky.key0) (Ky.hKk HKN.out) (Ky.bs_one _) ?_
    refine Fl.take (some 11) (v := .bool nk) rfl rfl (Or.inl ⟨by rfl, fun _ _ => by rfl⟩) ?_
    simp only [Act.put, Fl.z1, Fl.z2, Fl.z3]
    refine Fl.stopW (fun W hi => ?_)
    replace HI := Lib.hid hi
    clear hi
    go_upto_region 9 with (fail)
    refine Fl.startW [.take 0, .one 1, .one 2, .take 3, .take 4, .take 5, .take 6, .one 7, .one 8, .one 9, .one 10, .take 11] (by decide) HI.out ?_
    refine Fl.take (some 54) (v := .slice A0 l0.length c0) rfl rfl (Or.inl ⟨by rfl, fun _ _ => by rfl⟩) ?_
    simp only [Act.put, Fl.z1, Fl.z2, Fl.z3]
    refine Fl.call (some 55) Try.func25 (by kernel_rfl) rfl #[.slice A0 l0.length c0, .int .i64 2] rfl rfl rfl (by rfl) rfl (fun E2 W2 hE2 hi => ?_)
    refine (laws_vCut.calls A0 c0 l0 2 l2 W2 (Kd.C_below HR0.out hi.bel) HC0.out HL2.out).mono ?_
    rintro e W' ⟨v0, rfl, hr, hb⟩
    obtain ⟨A2, c2, rfl⟩ := Kd.R_slice hr
    refine Fl.addR hi hr hb ?_
    clear hr
    clear hi hb hE2
    simp only [Act.put, Fl.z1, Fl.z2, Fl.z3]
    refine Fl.call (some 56) Try.func28 (by kernel_rfl) rfl #[.slice A2 l2.length c2] rfl rfl rfl (by rfl) rfl (fun E2 W2 hE2 hi => ?_)
    refine (spec_DrawKeyAt.calls HK9.out HDK.out A2 c2 l2 HU2.out W2 (hi.cR 0 rfl) (hi.lR 0 rfl)).mono ?_
    intro e W' hp_
    unfold spec_DrawKeyAt.Post at hp_
    obtain ⟨Am, cm, m, wa, ws, wl, wc, i, rfl, hml, hrows, hb⟩ := hp_
    have HML := Lib.hid hml
    refine Fl.addS (v := .tuple #[.agg #[.slice Am m.length cm], .agg #[.int .i64 wa, .int .i64 ws, .int .i64 wl, .int .i64 wc], .int .i64 i]) hi hrows hb ?_
    clear hml hrows
    clear hi hb hE2
    simp only [Act.put, Fl.z1, Fl.z2, Fl.z3]
    refine Fl.take (some 53) (v := .tuple #[.agg #[.slice Am m.length cm], .agg #[.int .i64 wa, .int .i64 ws, .int .i64 wl, .int .i64 wc], .int .i64 i]) rfl rfl (Or.inl ⟨by rfl, fun _ _ => by rfl⟩) ?_
    simp only [Act.put, Fl.z1, Fl.z2, Fl.z3]
    refine Fl.take (some 57) (v := .agg #[.slice Am m.length cm]) rfl rfl (Or.inl ⟨by rfl, fun _ _ => by rfl⟩) ?_
    simp only [Act.put, Fl.z1, Fl.z2, Fl.z3]
    refine Fl.take (some 58) (v := .agg #[.int .i64 wa, .int .i64 ws, .int .i64 wl, .int .i64 wc]) rfl rfl (Or.inl ⟨by rfl, fun _ _ => by rfl⟩) ?_
    simp only [Act.put, Fl.z1, Fl.z2, Fl.z3]
    refine Fl.take (some 59) (v := .int .i64 i) rfl rfl (Or.inl ⟨by rfl, fun _ _ => by rfl⟩) ?_
    simp only [Act.put, Fl.z1, Fl.z2, Fl.z3]
    refine Fl.var (N := 12) (cs := #[.slice none 0 0]) (t := 32) ⟨_, rfl, rfl, fun _ => rfl, fun e w => by first | (go_simp; done) | (go_simp; rfl)⟩ (fun g12 => ?_)
    simp only [Act.put, Fl.z1, Fl.z2, Fl.z3]
    refine Fl.var (N := 13) (cs := #[.int .i64 0, .int .i64 0, .int .i64 0, .int .i64 0]) (t := 54) ⟨_, rfl, rfl, fun _ => rfl, fun e w => by first | (go_simp; done) | (go_simp; rfl)⟩ (fun g13 => ?_)
    simp only [Act.put, Fl.z1, Fl.z2, Fl.z3]
    refine Fl.store 1 #[.slice Am m.length cm] rfl rfl rfl rfl _ _ _ rfl rfl rfl (by rfl) rfl (by kernel_rfl) (by simp [Value.oneCell']) ?_
    refine Fl.store 0 #[.int .i64 wa, .int .i64 ws, .int .i64 wl, .int .i64 wc] rfl rfl rfl rfl _ _ _ rfl rfl rfl (by rfl) rfl (by kernel_rfl) (by simp [Value.oneCell']) ?_
    refine Fl.take (some 14) (v := .int .i64 i) rfl rfl (Or.inl ⟨by rfl, fun _ _ => by rfl⟩) ?_
    simp only [Act.put, Fl.z1, Fl.z2, Fl.z3]
    refine Fl.stopW (fun W hi => ?_)
    replace HI := Lib.hid hi
    clear hi
    obtain ⟨kk, kr, kb, hk1, hk2, hk3⟩ := HKEY.out m HML.out wa ws wl wc i
    have HK1 := Lib.hid hk1
    have HK2 := Lib.hid hk2
    have HK3 := Lib.hid hk3
    clear hk1 hk2 hk3
    go_upto_region 10 with (fail)
    refine Fl.startW [.one 0, .one 1, .take 2, .one 3, .take 4, .take 5, .take 6, .one 7, .one 8, .take 9] (by decide) HI.out ?_
    refine Fl.ldF (some 61) 1 rfl rfl rfl (by rfl) _ _ rfl rfl Try.underlying32 rfl (by kernel_rfl) ?_
    simp only [Act.put, Fl.z1, Fl.z2, Fl.z3]
    refine Fl.ldF (some 62) 0 rfl rfl rfl (by rfl) _ _ rfl rfl Try.underlying54 rfl (by kernel_rfl) ?_
    simp only [Act.put, Fl.z1, Fl.z2, Fl.z3]
    refine Fl.take (some 63) (v := .int .i64 i) rfl rfl (Or.inl ⟨by rfl, fun _ _ => by rfl⟩) ?_
    simp only [Act.put, Fl.z1, Fl.z2, Fl.z3]
    refine Fl.call (some 64) Try.func29 (by kernel_rfl) rfl #[.agg #[.slice Am m.length cm], .agg #[.int .i64 wa, .int .i64 ws, .int .i64 wl, .int .i64 wc], .int .i64 i] rfl rfl rfl (by rfl) rfl (fun E2 W2 hE2 hi => ?_)
    refine (impl_KeyAt.calls kk Am cm m wa ws wl wc i kr kb W2 (hi.cS 2 rfl) (hi.lS 2 rfl) HK1.out).mono ?_
    rintro e W' ⟨rfl, hb, hk_⟩
    have HKR := Lib.hid hk_
    refine Fl.keep (v := .tuple #[.agg (Ky.bs kr), .bool kb]) hi hb ?_
    clear hk_
    clear hi hb hE2
    simp only [Act.put, Fl.z1, Fl.z2, Fl.z3]
    refine Fl.take (some 60) (v := .tuple #[.agg (Ky.bs kr), .bool kb]) rfl rfl (Or.inl ⟨by rfl, fun _ _ => by rfl⟩) ?_
    simp only [Act.put, Fl.z1, Fl.z2, Fl.z3]
    refine Fl.take (some 65) (v := .agg (Ky.bs kr)) rfl rfl (Or.inl ⟨by rfl, fun _ _ => by rfl⟩) ?_
    simp only [Act.put, Fl.z1, Fl.z2, Fl.z3]
    refine Fl.take (some 66) (v := .bool kb) rfl rfl (Or.inl ⟨by rfl, fun _ _ => by rfl⟩) ?_
    simp only [Act.put, Fl.z1, Fl.z2, Fl.z3]
    refine Fl.var (N := 15) (cs := Ky.bs (List.replicate 16 0)) (t := 26) ⟨_, rfl, rfl, fun _ => rfl, fun e w => by first | (go_simp; done) | (go_simp; rfl)⟩ (fun g15 => ?_)
    simp only [Act.put, Fl.z1, Fl.z2, Fl.z3]
    refine Fl.store 0 (Ky.bs kr) rfl rfl rfl rfl _ _ _ rfl rfl rfl (by rfl) (Ky.size_key HKR.out Ky.key0) (Ky.hKk HKR.out) (Ky.bs_one _) ?_
    refine Fl.take (some 16) (v := .bool kb) rfl rfl (Or.inl ⟨by rfl, fun _ _ => by rfl⟩) ?_
    simp only [Act.put, Fl.z1, Fl.z2, Fl.z3]
    refine Fl.stopW (fun W hi => ?_)
    replace HI := Lib.hid hi
    clear hi
    go_upto_region 11 with (fail)
    refine Fl.startW [.one 0, .one 1, .take 2, .one 3, .take 4, .take 5, .take 6, .one 7, .one 8, .take 9] (by decide) HI.out ?_
    refine Fl.ldF (some 68) 2 rfl rfl rfl (by rfl) _ _ rfl rfl Try.underlying32 rfl (by kernel_rfl) ?_
    simp only [Act.put, Fl.z1, Fl.z2, Fl.z3]
    refine Fl.ldF (some 69) 1 rfl rfl rfl (by rfl) _ _ rfl rfl Try.underlying54 rfl (by kernel_rfl) ?_
    simp only [Act.put, Fl.z1, Fl.z2, Fl.z3]
    refine Fl.take (some 70) (v := .int .i64 i) rfl rfl (Or.inl ⟨by rfl, fun _ _ => by rfl⟩) ?_
    simp only [Act.put, Fl.z1, Fl.z2, Fl.z3]
    refine Fl.call (some 71) Try.func30 (by kernel_rfl) rfl #[.agg #[.slice Am m.length cm], .agg #[.int .i64 wa, .int .i64 ws, .int .i64 wl, .int .i64 wc], .int .i64 i] rfl rfl rfl (by rfl) rfl (fun E2 W2 hE2 hi => ?_)
    refine (spec_KeyAt.calls kk Am cm m wa ws wl wc i kr kb W2 (hi.cS 3 rfl) (hi.lS 3 rfl) HK2.out).mono ?_
    rintro e W' ⟨rfl, hb, hk_⟩
    have HKR := Lib.hid hk_
    refine Fl.keep (v := .tuple #[.agg (Ky.bs kr), .bool kb]) hi hb ?_
    clear hk_
    clear hi hb hE2
    simp only [Act.put, Fl.z1, Fl.z2, Fl.z3]
    refine Fl.take (some 67) (v := .tuple #[.agg (Ky.bs kr), .bool kb]) rfl rfl (Or.inl ⟨by rfl, fun _ _ => by rfl⟩) ?_
    simp only [Act.put, Fl.z1, Fl.z2, Fl.z3]
    refine Fl.take (some 72) (v := .agg (Ky.bs kr)) rfl rfl (Or.inl ⟨by rfl, fun _ _ => by rfl⟩) ?_
    simp only [Act.put, Fl.z1, Fl.z2, Fl.z3]
    refine Fl.take (some 73) (v := .bool kb) rfl rfl (Or.inl ⟨by rfl, fun _ _ => by rfl⟩) ?_
    simp only [Act.put, Fl.z1, Fl.z2, Fl.z3]
    refine Fl.var (N := 17) (cs := Ky.bs (List.replicate 16 0)) (t := 26) ⟨_, rfl, rfl, fun _ => rfl, fun e w => by first | (go_simp; done) | (go_simp; rfl)⟩ (fun g17 => ?_)
    simp only [Act.put, Fl.z1, Fl.z2, Fl.z3]
    refine Fl.store 0 (Ky.bs kr) rfl rfl rfl rfl _ _ _ rfl rfl rfl (by rfl) (Ky.size_key HKR.out Ky.key0) (Ky.hKk HKR.out) (Ky.bs_one _) ?_
    refine Fl.take (some 18) (v := .bool kb) rfl rfl (Or.inl ⟨by rfl, fun _ _ => by rfl⟩) ?_
    simp only [Act.put, Fl.z1, Fl.z2, Fl.z3]
    refine Fl.stopW (fun W hi => ?_)
    replace HI := Lib.hid hi
    clear hi
    go_upto_region 12 with (fail)
    refine Fl.startW [.take 0, .one 1, .one 2, .one 3, .take 4, .take 5, .take 6, .one 7, .one 8, .one 9, .take 10, .take 11, .take 12, .one 13, .one 14, .take 15, .take 16, .take 17, .take 18, .take 19, .take 20, .take 21, .take 22, .one 23, .one 24, .take 25, .take 26, .take 27, .take 28, .take 29, .take 30, .take 31] (by decide) HI.out ?_
    refine Fl.take (some 74) (v := .bool ls) rfl rfl (Or.inl ⟨by rfl, fun _ _ => by rfl⟩) ?_
    simp only [Act.put, Fl.z1, Fl.z2, Fl.z3]
    refine Fl.ldF (some 75) 11 rfl rfl rfl (by rfl) _ _ rfl rfl Try.underlying26 rfl (Ky.hKk HGA.out.1) ?_
    simp only [Act.put, Fl.z1, Fl.z2, Fl.z3]
    refine Fl.ldF (some 76) 10 rfl rfl rfl (by rfl) _ _ rfl rfl Try.underlying26 rfl (Ky.hKk HGB.out.1) ?_
    simp only [Act.put, Fl.z1, Fl.z2, Fl.z3]
    refine Fl.call (some 77) Try.func31 (by kernel_rfl) rfl #[.agg (Ky.bs a), .agg (Ky.bs b)] rfl rfl rfl (by rfl) rfl (fun E2 W2 hE2 hi => ?_)
    refine (spec_LessKey.calls a b ls W2 HGA.out.1 HGB.out.1 HLT.out).mono ?_
    rintro e W' ⟨rfl, hb⟩
    refine Fl.keep (v := .bool ls) hi hb ?_
    clear hi hb hE2
    simp only [Act.put, Fl.z1, Fl.z2, Fl.z3]
    refine Fl.take (some 78) (v := .bool false) rfl rfl (Or.inl ⟨by rfl, fun _ _ => by first | rfl | (go_simp; done) | (go_simp; rfl) | (go_simp; simp)⟩) ?_
    simp only [Act.put, Fl.z1, Fl.z2, Fl.z3]
    refine Fl.take (some 79) (v := .bool false) rfl rfl (Or.inl ⟨by rfl, fun _ _ => by rfl⟩) ?_
    simp only [Act.put, Fl.z1, Fl.z2, Fl.z3]
    refine Fl.take (some 80) (v := .int .i64 (cb : Int)) rfl rfl (Or.inl ⟨by rfl, fun _ _ => by rfl⟩) ?_
    simp only [Act.put, Fl.z1, Fl.z2, Fl.z3]
    refine Fl.ldF (some 81) 11 rfl rfl rfl (by rfl) _ _ rfl rfl Try.underlying26 rfl (Ky.hKk HGA.out.1) ?_
    simp only [Act.put, Fl.z1, Fl.z2, Fl.z3]
    refine Fl.ldF (some 82) 10 rfl rfl rfl (by rfl) _ _ rfl rfl Try.underlying26 rfl (Ky.hKk HGB.out.1) ?_
    simp only [Act.put, Fl.z1, Fl.z2, Fl.z3]
    refine Fl.call (some 83) Try.func32 (by kernel_rfl) rfl #[.agg (Ky.bs a), .agg (Ky.bs b)] rfl rfl rfl (by rfl) rfl (fun E2 W2 hE2 hi => ?_)
    refine (spec_CommonBits.calls a b (cb : Int) W2 HGA.out.1 HGB.out.1 HCS.out).mono ?_
    rintro e W' ⟨rfl, hb⟩
    refine Fl.keep (v := .int .i64 (cb : Int)) hi hb ?_
    clear hi hb hE2
    simp only [Act.put, Fl.z1, Fl.z2, Fl.z3]
    refine Fl.take (some 84) (v := .bool false) rfl rfl (Or.inl ⟨by rfl, fun _ _ => by first | rfl | (go_simp; done) | (go_simp; rfl) | (go_simp; simp)⟩) ?_
    simp only [Act.put, Fl.z1, Fl.z2, Fl.z3]
    refine Fl.take (some 85) (v := .bool false) rfl rfl (Or.inl ⟨by rfl, fun _ _ => by rfl⟩) ?_
    simp only [Act.put, Fl.z1, Fl.z2, Fl.z3]
    refine Fl.take (some 86) (v := .bool false) rfl rfl (Or.inl ⟨by rfl, fun _ _ => by rfl⟩) ?_
    simp only [Act.put, Fl.z1, Fl.z2, Fl.z3]
    refine Fl.ldF (some 87) 7 rfl rfl rfl (by rfl) _ _ rfl rfl Try.underlying26 rfl (Ky.hKk HKN.out) ?_
    simp only [Act.put, Fl.z1, Fl.z2, Fl.z3]
    refine Fl.ldF (some 88) 6 rfl rfl rfl (by rfl) _ _ rfl rfl Try.underlying26 rfl (Ky.hKk HKN.out) ?_
    simp only [Act.put, Fl.z1, Fl.z2, Fl.z3]
    refine Fl.take (some 89) (v := .bool false) rfl rfl (Ky.yields_neKey HKN.out (by rfl) _ _ _ rfl rfl rfl) ?_
    simp only [Act.put, Fl.z1, Fl.z2, Fl.z3]
    refine Fl.take (some 90) (v := .bool false) rfl rfl (Or.inl ⟨by rfl, fun _ _ => by rfl⟩) ?_
    simp only [Act.put, Fl.z1, Fl.z2, Fl.z3]
    refine Fl.take (some 91) (v := .bool false) rfl rfl (Or.inl ⟨by rfl, fun _ _ => by rfl⟩) ?_
    simp only [Act.put, Fl.z1, Fl.z2, Fl.z3]
    refine Fl.take (some 92) (v := .bool nk) rfl rfl (Or.inl ⟨by rfl, fun _ _ => by rfl⟩) ?_
    simp only [Act.put, Fl.z1, Fl.z2, Fl.z3]
    refine Fl.take (some 93) (v := .bool nk) rfl rfl (Or.inl ⟨by rfl, fun _ _ => by rfl⟩) ?_
    simp only [Act.put, Fl.z1, Fl.z2, Fl.z3]
    refine Fl.take (some 94) (v := .bool false) rfl rfl (Or.inl ⟨by rfl, fun _ _ => by first | rfl | (go_simp; done) | (go_simp; rfl) | (go_simp; simp)⟩) ?_
    simp only [Act.put, Fl.z1, Fl.z2, Fl.z3]
    refine Fl.take (some 95) (v := .bool false) rfl rfl (Or.inl ⟨by rfl, fun _ _ => by rfl⟩) ?_
    simp only [Act.put, Fl.z1, Fl.z2, Fl.z3]
    refine Fl.take (some 96) (v := .bool false) rfl rfl (Or.inl ⟨by rfl, fun _ _ => by rfl⟩) ?_
    simp only [Act.put, Fl.z1, Fl.z2, Fl.z3]
    refine Fl.ldF (some 97) 1 rfl rfl rfl (by rfl) _ _ rfl rfl Try.underlying26 rfl (Ky.hKk HKR.out) ?_
    simp only [Act.put, Fl.z1, Fl.z2, Fl.z3]
    refine Fl.ldF (some 98) 0 rfl rfl rfl (by rfl) _ _ rfl rfl Try.underlying26 rfl (Ky.hKk HKR.out) ?_
    simp only [Act.put, Fl.z1, Fl.z2, Fl.z3]
    refine Fl.take (some 99) (v := .bool false) rfl rfl (Ky.yields_neKey HKR.out (by rfl) _ _ _ rfl rfl rfl) ?_
    simp only [Act.put, Fl.z1, Fl.z2, Fl.z3]
    refine Fl.take (some 100) (v := .bool false) rfl rfl (Or.inl ⟨by rfl, fun _ _ => by rfl⟩) ?_
    simp only [Act.put, Fl.z1, Fl.z2, Fl.z3]
    refine Fl.take (some 101) (v := .bool false) rfl rfl (Or.inl ⟨by rfl, fun _ _ => by rfl⟩) ?_
    simp only [Act.put, Fl.z1, Fl.z2, Fl.z3]
    refine Fl.take (some 102) (v := .bool kb) rfl rfl (Or.inl ⟨by rfl, fun _ _ => by rfl⟩) ?_
    simp only [Act.put, Fl.z1, Fl.z2, Fl.z3]
    refine Fl.take (some 103) (v := .bool kb) rfl rfl (Or.inl ⟨by rfl, fun _ _ => by rfl⟩) ?_
    simp only [Act.put, Fl.z1, Fl.z2, Fl.z3]
    refine Fl.take (some 104) (v := .bool false) rfl rfl (Or.inl ⟨by rfl, fun _ _ => by first | rfl | (go_simp; done) | (go_simp; rfl) | (go_simp; simp)⟩) ?_
    simp only [Act.put, Fl.z1, Fl.z2, Fl.z3]
    refine Fl.take (some 105) (v := .bool false) rfl rfl (Or.inl ⟨by rfl, fun _ _ => by rfl⟩) ?_
    simp only [Act.put, Fl.z1, Fl.z2, Fl.z3]
    refine Fl.stopW (fun W hi => ?_)
    replace HI := Lib.hid hi
    clear hi
    cases kb with
    | false =>
      go_upto_region 14 with (fail)
      refine Fl.startW [.take 0] (by decide) HI.out ?_
      refine Fl.take (some 106) (v := .bool false) rfl rfl (Or.inl ⟨by rfl, fun _ _ => by rfl⟩) ?_
      simp only [Act.put, Fl.z1, Fl.z2, Fl.z3]
      refine Fl.stopW (fun W hi => ?_)
      replace HI := Lib.hid hi
      clear hi
      cases nk with
      | true =>
        have hng := Ky.next_good HGC.out.1 HGC.out.2 16 (Nat.le_refl _) c HGC.out.1 HGC.out.2 (HNX.out rfl)
        have hnl := Ky.next_less HGC.out.1 (HNX.out rfl)
        have HNL1 : Hid (impl_LessKey.f c nx = some true) := Lib.hid (by unfold impl_LessKey.f; rw [if_pos ⟨HGC.out.2, hng.2⟩, hnl.1])
        have HNL2 : Hid (impl_LessKey.f nx c = some false) := Lib.hid (by unfold impl_LessKey.f; rw [if_pos ⟨hng.2, HGC.out.2⟩, hnl.2])
        clear hng hnl
        go_upto_region 19 with (fail)
        refine Fl.startW [.take 0, .take 1, .one 2, .one 3, .one 4, .take 5, .take 6, .one 7, .one 8, .one 9, .take 10, .take 11] (by decide) HI.out ?_
        refine Fl.take (some 141) (v := .bool true) rfl rfl (Or.inl ⟨by rfl, fun _ _ => by rfl⟩) ?_
        simp only [Act.put, Fl.z1, Fl.z2, Fl.z3]
        refine Fl.take (some 142) (v := .bool true) rfl rfl (Or.inl ⟨by rfl, fun _ _ => by rfl⟩) ?_
        simp only [Act.put, Fl.z1, Fl.z2, Fl.z3]
        refine Fl.ldF (some 143) 8 rfl rfl rfl (by rfl) _ _ rfl rfl Try.underlying26 rfl (Ky.hKk HGC.out.1) ?_
        simp only [Act.put, Fl.z1, Fl.z2, Fl.z3]
        refine Fl.ldF (some 144) 7 rfl rfl rfl (by rfl) _ _ rfl rfl Try.underlying26 rfl (Ky.hKk HKN.out) ?_
        simp only [Act.put, Fl.z1, Fl.z2, Fl.z3]
        refine Fl.call (some 145) Try.func22 (by kernel_rfl) rfl #[.agg (Ky.bs c), .agg (Ky.bs nx)] rfl rfl rfl (by rfl) rfl (fun E2 W2 hE2 hi => ?_)
        refine (impl_LessKey.calls c nx true W2 HGC.out.1 HKN.out HNL1.out).mono ?_
        rintro e W' ⟨rfl, hb⟩
        refine Fl.keep (v := .bool true) hi hb ?_
        clear hi hb hE2
        simp only [Act.put, Fl.z1, Fl.z2, Fl.z3]
        refine Fl.take (some 146) (v := .bool false) rfl rfl (Or.inl ⟨by rfl, fun _ _ => by rfl⟩) ?_
        simp only [Act.put, Fl.z1, Fl.z2, Fl.z3]
        refine Fl.take (some 147) (v := .bool false) rfl rfl (Or.inl ⟨by rfl, fun _ _ => by rfl⟩) ?_
        simp only [Act.put, Fl.z1, Fl.z2, Fl.z3]
        refine Fl.ldF (some 148) 7 rfl rfl rfl (by rfl) _ _ rfl rfl Try.underlying26 rfl (Ky.hKk HKN.out) ?_
        simp only [Act.put, Fl.z1, Fl.z2, Fl.z3]
        refine Fl.ldF (some 149) 8 rfl rfl rfl (by rfl) _ _ rfl rfl Try.underlying26 rfl (Ky.hKk HGC.out.1) ?_
        simp only [Act.put, Fl.z1, Fl.z2, Fl.z3]
        refine Fl.call (some 150) Try.func22 (by kernel_rfl) rfl #[.agg (Ky.bs nx), .agg (Ky.bs c)] rfl rfl rfl (by rfl) rfl (fun E2 W2 hE2 hi => ?_)
        refine (impl_LessKey.calls nx c false W2 HKN.out HGC.out.1 HNL2.out).mono ?_
        rintro e W' ⟨rfl, hb⟩
        refine Fl.keep (v := .bool false) hi hb ?_
        clear hi hb hE2
        simp only [Act.put, Fl.z1, Fl.z2, Fl.z3]
        refine Fl.take (some 151) (v := .bool false) rfl rfl (Or.inl ⟨by rfl, fun _ _ => by rfl⟩) ?_
        simp only [Act.put, Fl.z1, Fl.z2, Fl.z3]
        refine Fl.take (some 152) (v := .bool false) rfl rfl (Or.inl ⟨by rfl, fun _ _ => by rfl⟩) ?_
        simp only [Act.put, Fl.z1, Fl.z2, Fl.z3]
        refine Fl.stopW (fun W hi => ?_)
        replace HI := Lib.hid hi
        clear hi
        go_upto_region 21 with (fail)
        refine Fl.startW [.one 0, .one 1, .one 2, .take 3] (by decide) HI.out ?_
        refine Fl.ldF (some 153) 10 rfl rfl rfl (by rfl) _ _ rfl rfl Try.underlying26 rfl (Ky.hKk HGB.out.1) ?_
        simp only [Act.put, Fl.z1, Fl.z2, Fl.z3]
        refine Fl.ldF (some 154) 11 rfl rfl rfl (by rfl) _ _ rfl rfl Try.underlying26 rfl (Ky.hKk HGA.out.1) ?_
        simp only [Act.put, Fl.z1, Fl.z2, Fl.z3]
        refine Fl.call (some 155) Try.func22 (by kernel_rfl) rfl #[.agg (Ky.bs b), .agg (Ky.bs a)] rfl rfl rfl (by rfl) rfl (fun E2 W2 hE2 hi => ?_)
        refine (impl_LessKey.calls b a bk W2 HGB.out.1 HGA.out.1 HLB.out).mono ?_
        rintro e W' ⟨rfl, hb⟩
        refine Fl.keep (v := .bool bk) hi hb ?_
        clear hi hb hE2
        simp only [Act.put, Fl.z1, Fl.z2, Fl.z3]
        refine Fl.take (some 23) (v := .bool bk) rfl rfl (Or.inl ⟨by rfl, fun _ _ => by rfl⟩) ?_
        simp only [Act.put, Fl.z1, Fl.z2, Fl.z3]
        refine Fl.stopW (fun W hi => ?_)
        replace HI := Lib.hid hi
        clear hi
        by_cases hab : a = b
        · have HD : Hid (decide (a = b) = true) := Lib.hid (decide_eq_true hab)
          obtain rfl : ls = false := by rw [HEL.out, hab]; exact Ky.less_self b
          obtain rfl : bk = false := by rw [HEB.out, hab]; exact Ky.less_self b
          obtain rfl : cb = 128 := by rw [HEC.out, hab, Ky.common_self, show b.length = 16 from HGB.out.1]
          clear hab
          go_upto_region 22 with (fail)
          refine Fl.startW [.one 0, .one 1, .take 2, .take 3, .take 4, .take 5, .take 6, .one 7, .one 8, .take 9, .take 10, .take 11, .take 12, .take 13, .take 14, .take 15, .take 16, .take 17, .take 18, .take 19, .take 20, .take 21, .take 22, .one 23, .one 24, .one 25, .take 26, .take 27, .take 28] (by decide) HI.out ?_
          refine Fl.ldF (some 156) 11 rfl rfl rfl (by rfl) _ _ rfl rfl Try.underlying26 rfl (Ky.hKk HGA.out.1) ?_
          simp only [Act.put, Fl.z1, Fl.z2, Fl.z3]
          refine Fl.ldF (some 157) 10 rfl rfl rfl (by rfl) _ _ rfl rfl Try.underlying26 rfl (Ky.hKk HGB.out.1) ?_
          simp only [Act.put, Fl.z1, Fl.z2, Fl.z3]
          refine Fl.take (some 158) (v := .bool true) rfl rfl (Ky.yields_eqKeyB HD.out HGA.out.1 HGB.out.1 (by rfl) _ _ _ rfl rfl rfl) ?_
          simp only [Act.put, Fl.z1, Fl.z2, Fl.z3]
          refine Fl.take (some 159) (v := .int .i64 ((128 : Nat) : Int)) rfl rfl (Or.inl ⟨by rfl, fun _ _ => by rfl⟩) ?_
          simp only [Act.put, Fl.z1, Fl.z2, Fl.z3]
          refine Fl.take (some 160) (v := .bool true) rfl rfl (Or.inl ⟨by rfl, fun _ _ => by first | rfl | (go_simp; done) | (go_simp; rfl)⟩) ?_
          simp only [Act.put, Fl.z1, Fl.z2, Fl.z3]
          refine Fl.take (some 161) (v := .bool false) rfl rfl (Or.inl ⟨by rfl, fun _ _ => by first | rfl | (go_simp; done) | (go_simp; rfl) | (go_simp; simp)⟩) ?_
          simp only [Act.put, Fl.z1, Fl.z2, Fl.z3]
          refine Fl.take (some 162) (v := .bool false) rfl rfl (Or.inl ⟨by rfl, fun _ _ => by rfl⟩) ?_
          simp only [Act.put, Fl.z1, Fl.z2, Fl.z3]
          refine Fl.ldF (some 163) 11 rfl rfl rfl (by rfl) _ _ rfl rfl Try.underlying26 rfl (Ky.hKk HGA.out.1) ?_
          simp only [Act.put, Fl.z1, Fl.z2, Fl.z3]
          refine Fl.ldF (some 164) 10 rfl rfl rfl (by rfl) _ _ rfl rfl Try.underlying26 rfl (Ky.hKk HGB.out.1) ?_
          simp only [Act.put, Fl.z1, Fl.z2, Fl.z3]
          refine Fl.take (some 165) (v := .bool true) rfl rfl (Ky.yields_eqKeyB HD.out HGA.out.1 HGB.out.1 (by rfl) _ _ _ rfl rfl rfl) ?_
          simp only [Act.put, Fl.z1, Fl.z2, Fl.z3]
          refine Fl.take (some 166) (v := .bool false) rfl rfl (Or.inl ⟨by rfl, fun _ _ => by rfl⟩) ?_
          simp only [Act.put, Fl.z1, Fl.z2, Fl.z3]
          refine Fl.take (some 167) (v := .bool false) rfl rfl (Or.inl ⟨by rfl, fun _ _ => by rfl⟩) ?_
          simp only [Act.put, Fl.z1, Fl.z2, Fl.z3]
          refine Fl.take (some 168) (v := .bool false) rfl rfl (Or.inl ⟨by rfl, fun _ _ => by rfl⟩) ?_
          simp only [Act.put, Fl.z1, Fl.z2, Fl.z3]
          refine Fl.take (some 169) (v := .bool false) rfl rfl (Or.inl ⟨by rfl, fun _ _ => by rfl⟩) ?_
          simp only [Act.put, Fl.z1, Fl.z2, Fl.z3]
          refine Fl.take (some 170) (v := .bool false) rfl rfl (Or.inl ⟨by rfl, fun _ _ => by first | rfl | (go_simp; done) | (go_simp; rfl) | (go_simp; simp)⟩) ?_
          simp only [Act.put, Fl.z1, Fl.z2, Fl.z3]
          refine Fl.take (some 171) (v := .bool false) rfl rfl (Or.inl ⟨by rfl, fun _ _ => by rfl⟩) ?_
          simp only [Act.put, Fl.z1, Fl.z2, Fl.z3]
          refine Fl.take (some 172) (v := .bool false) rfl rfl (Or.inl ⟨by rfl, fun _ _ => by rfl⟩) ?_
          simp only [Act.put, Fl.z1, Fl.z2, Fl.z3]
          refine Fl.take (some 173) (v := .bool false) rfl rfl (Or.inl ⟨by rfl, fun _ _ => by rfl⟩) ?_
          simp only [Act.put, Fl.z1, Fl.z2, Fl.z3]
          refine Fl.take (some 174) (v := .bool false) rfl rfl (Or.inl ⟨by rfl, fun _ _ => by rfl⟩) ?_
          simp only [Act.put, Fl.z1, Fl.z2, Fl.z3]
          refine Fl.take (some 175) (v := undef) rfl rfl (Or.inr ⟨by rfl, rfl⟩) ?_
          simp only [Act.put, Fl.z1, Fl.z2, Fl.z3]
          refine Fl.take (some 176) (v := .bool false) rfl rfl (Or.inl ⟨by rfl, fun _ _ => by rfl⟩) ?_
          simp only [Act.put, Fl.z1, Fl.z2, Fl.z3]
          refine Fl.take (some 177) (v := .bool false) rfl rfl (Or.inl ⟨by rfl, fun _ _ => by rfl⟩) ?_
          simp only [Act.put, Fl.z1, Fl.z2, Fl.z3]
          refine Fl.take (some 178) (v := .bool false) rfl rfl (Or.inl ⟨by rfl, fun _ _ => by rfl⟩) ?_
          simp only [Act.put, Fl.z1, Fl.z2, Fl.z3]
          refine Fl.ldF (some 179) 10 rfl rfl rfl (by rfl) _ _ rfl rfl Try.underlying26 rfl (Ky.hKk HGB.out.1) ?_
          simp only [Act.put, Fl.z1, Fl.z2, Fl.z3]
          refine Fl.ldF (some 180) 11 rfl rfl rfl (by rfl) _ _ rfl rfl Try.underlying26 rfl (Ky.hKk HGA.out.1) ?_
          simp only [Act.put, Fl.z1, Fl.z2, Fl.z3]
          refine Fl.call (some 181) Try.func23 (by kernel_rfl) rfl #[.agg (Ky.bs b), .agg (Ky.bs a)] rfl rfl rfl (by rfl) rfl (fun E2 W2 hE2 hi => ?_)
          refine (impl_CommonBits.calls b a ((128 : Nat) : Int) W2 HGB.out.1 HGA.out.1 HCB.out).mono ?_
          rintro e W' ⟨rfl, hb⟩
          refine Fl.keep (v := .int .i64 ((128 : Nat) : Int)) hi hb ?_
          clear hi hb hE2
          simp only [Act.put, Fl.z1, Fl.z2, Fl.z3]
          refine Fl.take (some 182) (v := .int .i64 ((128 : Nat) : Int)) rfl rfl (Or.inl ⟨by rfl, fun _ _ => by rfl⟩) ?_
          simp only [Act.put, Fl.z1, Fl.z2, Fl.z3]
          refine Fl.take (some 183) (v := .bool false) rfl rfl (Or.inl ⟨by rfl, fun _ _ => by first | rfl | (go_simp; done) | (go_simp; rfl) | (go_simp; simp)⟩) ?_
          simp only [Act.put, Fl.z1, Fl.z2, Fl.z3]
          refine Fl.take (some 184) (v := .bool false) rfl rfl (Or.inl ⟨by rfl, fun _ _ => by rfl⟩) ?_
          simp only [Act.put, Fl.z1, Fl.z2, Fl.z3]
          refine Fl.stopW (fun W hi => ?_)
          replace HI := Lib.hid hi
          clear hi
          go_upto_region 24 with (fail)
          refine Fl.startW [.one 0, .one 1, .take 2] (by decide) HI.out ?_
          refine Fl.ldF (some 185) 11 rfl rfl rfl (by rfl) _ _ rfl rfl Try.underlying26 rfl (Ky.hKk HGA.out.1) ?_
          simp only [Act.put, Fl.z1, Fl.z2, Fl.z3]
          refine Fl.ldF (some 186) 10 rfl rfl rfl (by rfl) _ _ rfl rfl Try.underlying26 rfl (Ky.hKk HGB.out.1) ?_
          simp only [Act.put, Fl.z1, Fl.z2, Fl.z3]
          refine Fl.take (some 187) (v := .bool true) rfl rfl (Ky.yields_eqKeyB HD.out HGA.out.1 HGB.out.1 (by rfl) _ _ _ rfl rfl rfl) ?_
          simp only [Act.put, Fl.z1, Fl.z2, Fl.z3]
          refine Fl.stopW (fun W hi => ?_)
          replace HI := Lib.hid hi
          clear hi
          go_wp2
          go_ret
          exact ⟨rfl, HI.out.bel⟩
        · have HD : Hid (decide (a = b) = false) := Lib.hid (decide_eq_false hab)
          obtain ⟨n, c_, x, y, hn, hc8, hx, hy, hal, hcm, hd, hlz, hlb⟩ := Ky.keys_ne HGA.out.1 HGB.out.1 HGA.out.2 HGB.out.2 hab
          rw [← HEC.out] at hcm
          obtain rfl : bk = !ls := by rw [HEB.out, HEL.out]; exact hlb
          rw [← HEL.out] at hlz
          have HNE : Hid (¬ (cb : Int) = 128) := Lib.hid (by omega)
          have HC8 := Lib.hid hc8
          have HNN := Lib.hid hn
          have HX := Lib.hid hx
          have HY := Lib.hid hy
          have HAL := Lib.hid hal
          have HDX := Lib.hid hd
          have HLZ := Lib.hid hlz
          have HQ1 : Hid (IntKind.i64.wrap (Int.tdiv (cb : Int) 8) = (n : Int)) := Lib.hid (by rw [IntKind.wrap_i64, Int.tdiv_eq_ediv_of_nonneg (by omega)]; omega)
          have HQ2 : Hid (Int.tmod (cb : Int) 8 = ((7 - c_ : Nat) : Int)) := Lib.hid (by rw [Int.tmod_eq_emod_of_nonneg (by omega)]; omega)
          clear hab hn hc8 hx hy hal hd hlz hlb hcm
          go_upto_region 22 with (fail)
          refine Fl.startW [.one 0, .one 1, .take 2, .take 3, .take 4, .take 5, .take 6, .one 7, .one 8, .take 9, .take 10, .take 11, .take 12, .take 13, .take 14, .take 15, .take 16, .take 17, .take 18, .take 19, .take 20, .take 21, .take 22, .one 23, .one 24, .one 25, .take 26, .take 27, .take 28] (by decide) HI.out ?_
          refine Fl.ldF (some 156) 11 rfl rfl rfl (by rfl) _ _ rfl rfl Try.underlying26 rfl (Ky.hKk HGA.out.1) ?_
          simp only [Act.put, Fl.z1, Fl.z2, Fl.z3]
          refine Fl.ldF (some 157) 10 rfl rfl rfl (by rfl) _ _ rfl rfl Try.underlying26 rfl (Ky.hKk HGB.out.1) ?_
          simp only [Act.put, Fl.z1, Fl.z2, Fl.z3]
          refine Fl.take (some 158) (v := .bool false) rfl rfl (Ky.yields_eqKeyB HD.out HGA.out.1 HGB.out.1 (by rfl) _ _ _ rfl rfl rfl) ?_
          simp only [Act.put, Fl.z1, Fl.z2, Fl.z3]
          refine Fl.take (some 159) (v := .int .i64 (cb : Int)) rfl rfl (Or.inl ⟨by rfl, fun _ _ => by rfl⟩) ?_
          simp only [Act.put, Fl.z1, Fl.z2, Fl.z3]
          refine Fl.take (some 160) (v := .bool false) rfl rfl (Or.inl ⟨by rfl, fun _ _ => by have h_ := eq_false HNE.out; first | (go_simp; done) | (go_simp; rfl) | (go_simp; simp [h_]; done) | (go_simp; simp; omega)⟩) ?_
          simp only [Act.put, Fl.z1, Fl.z2, Fl.z3]
          refine Fl.take (some 161) (v := .bool false) rfl rfl (Or.inl ⟨by rfl, fun _ _ => by first | rfl | (go_simp; done) | (go_simp; rfl) | (go_simp; simp)⟩) ?_
          simp only [Act.put, Fl.z1, Fl.z2, Fl.z3]
          refine Fl.take (some 162) (v := .bool false) rfl rfl (Or.inl ⟨by rfl, fun _ _ => by rfl⟩) ?_
          simp only [Act.put, Fl.z1, Fl.z2, Fl.z3]
          refine Fl.ldF (some 163) 11 rfl rfl rfl (by rfl) _ _ rfl rfl Try.underlying26 rfl (Ky.hKk HGA.out.1) ?_
          simp only [Act.put, Fl.z1, Fl.z2, Fl.z3]
          refine Fl.ldF (some 164) 10 rfl rfl rfl (by rfl) _ _ rfl rfl Try.underlying26 rfl (Ky.hKk HGB.out.1) ?_
          simp only [Act.put, Fl.z1, Fl.z2, Fl.z3]
          refine Fl.take (some 165) (v := .bool false) rfl rfl (Ky.yields_eqKeyB HD.out HGA.out.1 HGB.out.1 (by rfl) _ _ _ rfl rfl rfl) ?_
          simp only [Act.put, Fl.z1, Fl.z2, Fl.z3]
          refine Fl.take (some 166) (v := .bool ls) rfl rfl (Or.inl ⟨by rfl, fun _ _ => by rfl⟩) ?_
          simp only [Act.put, Fl.z1, Fl.z2, Fl.z3]
          refine Fl.take (some 167) (v := .bool ls) rfl rfl (Or.inl ⟨by rfl, fun _ _ => by rfl⟩) ?_
          simp only [Act.put, Fl.z1, Fl.z2, Fl.z3]
          refine Fl.take (some 168) (v := (cond ls undef (.bool (!ls)))) rfl rfl (by cases ls <;> first | exact Or.inr ⟨by rfl, by rfl⟩ | exact Or.inl ⟨by rfl, fun _ _ => by first | rfl | (go_simp; done) | (go_simp; rfl)⟩) ?_
          simp only [Act.put, Fl.z1, Fl.z2, Fl.z3]
          refine Fl.take (some 169) (v := .bool true) rfl rfl (by cases ls <;> first | exact Or.inr ⟨by rfl, by rfl⟩ | exact Or.inl ⟨by rfl, fun _ _ => by first | rfl | (go_simp; done) | (go_simp; rfl)⟩) ?_
          simp only [Act.put, Fl.z1, Fl.z2, Fl.z3]
          refine Fl.take (some 170) (v := .bool false) rfl rfl (Or.inl ⟨by rfl, fun _ _ => by first | rfl | (go_simp; done) | (go_simp; rfl) | (go_simp; simp)⟩) ?_
          simp only [Act.put, Fl.z1, Fl.z2, Fl.z3]
          refine Fl.take (some 171) (v := .bool false) rfl rfl (Or.inl ⟨by rfl, fun _ _ => by rfl⟩) ?_
          simp only [Act.put, Fl.z1, Fl.z2, Fl.z3]
          refine Fl.take (some 172) (v := .bool false) rfl rfl (Or.inl ⟨by rfl, fun _ _ => by rfl⟩) ?_
          simp only [Act.put, Fl.z1, Fl.z2, Fl.z3]
          refine Fl.take (some 173) (v := .bool ls) rfl rfl (Or.inl ⟨by rfl, fun _ _ => by rfl⟩) ?_
          simp only [Act.put, Fl.z1, Fl.z2, Fl.z3]
          refine Fl.take (some 174) (v := .bool ls) rfl rfl (Or.inl ⟨by rfl, fun _ _ => by rfl⟩) ?_
          simp only [Act.put, Fl.z1, Fl.z2, Fl.z3]
          refine Fl.take (some 175) (v := (cond ls (.bool (!ls)) undef)) rfl rfl (by cases ls <;> first | exact Or.inr ⟨by rfl, by rfl⟩ | exact Or.inl ⟨by rfl, fun _ _ => by first | rfl | (go_simp; done) | (go_simp; rfl)⟩) ?_
          simp only [Act.put, Fl.z1, Fl.z2, Fl.z3]
          refine Fl.take (some 176) (v := .bool false) rfl rfl (by cases ls <;> first | exact Or.inr ⟨by rfl, by rfl⟩ | exact Or.inl ⟨by rfl, fun _ _ => by first | rfl | (go_simp; done) | (go_simp; rfl)⟩) ?_
          simp only [Act.put, Fl.z1, Fl.z2, Fl.z3]
          refine Fl.take (some 177) (v := .bool false) rfl rfl (Or.inl ⟨by rfl, fun _ _ => by rfl⟩) ?_
          simp only [Act.put, Fl.z1, Fl.z2, Fl.z3]
          refine Fl.take (some 178) (v := .bool false) rfl rfl (Or.inl ⟨by rfl, fun _ _ => by rfl⟩) ?_
          simp only [Act.put, Fl.z1, Fl.z2, Fl.z3]
          refine Fl.ldF (some 179) 10 rfl rfl rfl (by rfl) _ _ rfl rfl Try.underlying26 rfl (Ky.hKk HGB.out.1) ?_
          simp only [Act.put, Fl.z1, Fl.z2, Fl.z3]
          refine Fl.ldF (some 180) 11 rfl rfl rfl (by rfl) _ _ rfl rfl Try.underlying26 rfl (Ky.hKk HGA.out.1) ?_
          simp only [Act.put, Fl.z1, Fl.z2, Fl.z3]
          refine Fl.call (some 181) Try.func23 (by kernel_rfl) rfl #[.agg (Ky.bs b), .agg (Ky.bs a)] rfl rfl rfl (by rfl) rfl (fun E2 W2 hE2 hi => ?_)
          refine (impl_CommonBits.calls b a (cb : Int) W2 HGB.out.1 HGA.out.1 HCB.out).mono ?_
          rintro e W' ⟨rfl, hb⟩
          refine Fl.keep (v := .int .i64 (cb : Int)) hi hb ?_
          clear hi hb hE2
          simp only [Act.put, Fl.z1, Fl.z2, Fl.z3]
          refine Fl.take (some 182) (v := .int .i64 (cb : Int)) rfl rfl (Or.inl ⟨by rfl, fun _ _ => by rfl⟩) ?_
          simp only [Act.put, Fl.z1, Fl.z2, Fl.z3]
          refine Fl.take (some 183) (v := .bool false) rfl rfl (Or.inl ⟨by rfl, fun _ _ => by first | rfl | (go_simp; done) | (go_simp; rfl) | (go_simp; simp)⟩) ?_
          simp only [Act.put, Fl.z1, Fl.z2, Fl.z3]
          refine Fl.take (some 184) (v := .bool false) rfl rfl (Or.inl ⟨by rfl, fun _ _ => by rfl⟩) ?_
          simp only [Act.put, Fl.z1, Fl.z2, Fl.z3]
          refine Fl.stopW (fun W hi => ?_)
          replace HI := Lib.hid hi
          clear hi
          go_upto_region 24 with (fail)
          refine Fl.startW [.one 0, .one 1, .take 2] (by decide) HI.out ?_
          refine Fl.ldF (some 185) 11 rfl rfl rfl (by rfl) _ _ rfl rfl Try.underlying26 rfl (Ky.hKk HGA.out.1) ?_
          simp only [Act.put, Fl.z1, Fl.z2, Fl.z3]
          refine Fl.ldF (some 186) 10 rfl rfl rfl (by rfl) _ _ rfl rfl Try.underlying26 rfl (Ky.hKk HGB.out.1) ?_
          simp only [Act.put, Fl.z1, Fl.z2, Fl.z3]
          refine Fl.take (some 187) (v := .bool false) rfl rfl (Ky.yields_eqKeyB HD.out HGA.out.1 HGB.out.1 (by rfl) _ _ _ rfl rfl rfl) ?_
          simp only [Act.put, Fl.z1, Fl.z2, Fl.z3]
          refine Fl.stopW (fun W hi => ?_)
          replace HI := Lib.hid hi
          clear hi
          go_upto_region 26 with (fail)
          refine Fl.startW [.take 0, .take 1, .take 2] (by decide) HI.out ?_
          refine Fl.take (some 188) (v := .int .i64 (cb : Int)) rfl rfl (Or.inl ⟨by rfl, fun _ _ => by rfl⟩) ?_
          simp only [Act.put, Fl.z1, Fl.z2, Fl.z3]
          refine Fl.take (some 189) (v := .int .i64 (n : Int)) rfl rfl (Fz.yields_quo (by rfl) _ _ _ _ rfl (cb : Int) 8 (n : Int) rfl rfl (by decide) HQ1.out) ?_
          simp only [Act.put, Fl.z1, Fl.z2, Fl.z3]
          refine Fl.take (some 24) (v := .int .i64 (n : Int)) rfl rfl (Or.inl ⟨by rfl, fun _ _ => by rfl⟩) ?_
          simp only [Act.put, Fl.z1, Fl.z2, Fl.z3]
          refine Fl.stopW (fun W hi => ?_)
          replace HI := Lib.hid hi
          clear hi
          go_upto_region 27 with (fail)
          refine Fl.startW [.take 0, .take 1, .take 2, .take 3] (by decide) HI.out ?_
          refine Fl.take (some 190) (v := .int .i64 (cb : Int)) rfl rfl (Or.inl ⟨by rfl, fun _ _ => by rfl⟩) ?_
          simp only [Act.put, Fl.z1, Fl.z2, Fl.z3]
          refine Fl.take (some 191) (v := .int .i64 ((7 - c_ : Nat) : Int)) rfl rfl (Fz.yields_rem (by rfl) _ _ _ _ rfl (cb : Int) 8 ((7 - c_ : Nat) : Int) rfl rfl (by decide) HQ2.out) ?_
          simp only [Act.put, Fl.z1, Fl.z2, Fl.z3]
          refine Fl.take (some 192) (v := .int .u8 ((2 ^ c_ : Nat) : Int)) rfl rfl (Ky.yields_shr HC8.out (by rfl) _ _ _ _ rfl rfl rfl) ?_
          simp only [Act.put, Fl.z1, Fl.z2, Fl.z3]
          refine Fl.take (some 25) (v := .int .u8 ((2 ^ c_ : Nat) : Int)) rfl rfl (Or.inl ⟨by rfl, fun _ _ => by rfl⟩) ?_
          simp only [Act.put, Fl.z1, Fl.z2, Fl.z3]
          refine Fl.stopW (fun W hi => ?_)
          replace HI := Lib.hid hi
          clear hi
          obtain ⟨mk, hmk⟩ : ∃ x, x = ((2 ^ c_ : Nat) : Int) := ⟨_, rfl⟩
          rw [← hmk] at HDX HLZ
          rw [← hmk]
          clear hmk HC8
          replace HI : Hid (Lv.Inv w W [Lv.boxF g3 (Ky.bs a) 26, Lv.boxF g4 (Ky.bs b) 26]) := Lib.hid (Fl.inv_sel HI.out [11, 10] (by decide))
          go_wp2
          go_loopg [26] n (fun gg s26 wr => ∃ k : Nat, s26 = .int .i64 (k : Int) ∧ Hid (k ≤ n ∧ n - k ≤ gg) ∧ Hid (Lv.Inv w wr [Lv.boxF g3 (Ky.bs a) 26, Lv.boxF g4 (Ky.bs b) 26]))
          case atStart => exact ⟨0, rfl, Lib.hid (by simp), HI⟩
          case round =>
            clear HI
            obtain ⟨k, rfl, HK, HI⟩ := hrel
            by_cases hlt : k < n
            · have k0 : (0 : Int) ≤ (k : Int) := by omega
              have k1 : (k : Int) < (n : Int) := by omega
              have k2 : (k : Int) < 16 := by have := HNN.out; omega
              obtain ⟨z, hz⟩ : ∃ z, a[k]? = some z := ⟨_, List.getElem?_eq_getElem (by rw [show a.length = 16 from HGA.out.1]; omega)⟩
              have HZA := Lib.hid hz
              have HZB : Hid (b[k]? = some z) := Lib.hid (by rw [← HAL.out k hlt]; exact hz)
              clear hz
              go_upto_region 31 with (fail)
              refine Fl.start [([],[]),([0],[0]),([1],[1]),([],[]),([3],[3]),([4],[4]),([2,5],[2,5])] [] 8 [.take 0, .take 1, .take 2, .take 3, .take 4, .take 5, .take 6] [] (by kernel_rfl) (by kernel_rfl) (by decide) (by decide) (by kernel_rfl) (by kernel_rfl) Fl.mk0 HI.out ?_
              refine Fl.take (some 198) (v := .int .i64 (k : Int)) rfl rfl (Or.inl ⟨by rfl, fun _ _ => by rfl⟩) ?_
              simp only [Act.put, Fl.z1, Fl.z2, Fl.z3]
              refine Fl.take (some 199) (v := .pointer (some ⟨g3, k, none⟩)) rfl rfl (Or.inl ⟨by rfl, fun _ _ => by first | rfl | (go_simp; done) | (go_simp; rfl) | (go_simp; omega)⟩) ?_
              simp only [Act.put, Fl.z1, Fl.z2, Fl.z3]
              refine Fl.take (some 200) (v := .int .u8 z) rfl rfl (Fl.ldc 0 k rfl (by rfl) _ _ rfl rfl (Ky.bs_get HZA.out) Try.underlying5 rfl) ?_
              simp only [Act.put, Fl.z1, Fl.z2, Fl.z3]
              refine Fl.take (some 201) (v := .int .i64 (k : Int)) rfl rfl (Or.inl ⟨by rfl, fun _ _ => by rfl⟩) ?_
              simp only [Act.put, Fl.z1, Fl.z2, Fl.z3]
              refine Fl.take (some 202) (v := .pointer (some ⟨g4, k, none⟩)) rfl rfl (Or.inl ⟨by rfl, fun _ _ => by first | rfl | (go_simp; done) | (go_simp; rfl) | (go_simp; omega)⟩) ?_
              simp only [Act.put, Fl.z1, Fl.z2, Fl.z3]
              refine Fl.take (some 203) (v := .int .u8 z) rfl rfl (Fl.ldc 1 k rfl (by rfl) _ _ rfl rfl (Ky.bs_get HZB.out) Try.underlying5 rfl) ?_
              simp only [Act.put, Fl.z1, Fl.z2, Fl.z3]
              refine Fl.take (some 204) (v := .bool false) rfl rfl (Or.inl ⟨by rfl, fun _ _ => by first | rfl | (go_simp; done) | (go_simp; rfl) | (go_simp; simp)⟩) ?_
              simp only [Act.put, Fl.z1, Fl.z2, Fl.z3]
              refine Fl.fin0 ?_
              refine Fl.stopN (fun W hi => ?_)
              replace HI := Lib.hid hi
              clear hi
              go_wp2
              go_roundg (n - (k + 1))
              case measure => have := HK.out; omega
              case rel => exact ⟨k + 1, by go_num, Lib.hid (by have := HK.out; omega), HI⟩
            · obtain rfl : k = n := by have := HK.out; omega
              have k1 : ¬ (k : Int) < (k : Int) := by omega
              have k0 : (0 : Int) ≤ (k : Int) := by omega
              have k2 : (k : Int) < 16 := by have := HNN.out; omega
              obtain ⟨px, hpx⟩ : ∃ v, v = Go.bits .and .u8 x mk := ⟨_, rfl⟩
              obtain ⟨py, hpy⟩ : ∃ v, v = Go.bits .and .u8 y mk := ⟨_, rfl⟩
              rw [← hpx, ← hpy] at HDX
              rw [← hpx] at HLZ
              have HPX := Lib.hid hpx.symm
              have HPY := Lib.hid hpy.symm
              clear hpx hpy
              go_upto_region 33 with (fail)
              refine Fl.start [([],[]),([0],[0]),([1],[1]),([],[]),([2,3],[2,3]),([],[]),([5],[5]),([6],[6]),([],[]),([7,8],[7,8]),([4,9],[4,9]),([10],[10]),([11],[11]),([11],[11]),([13,11],[11,13]),([14,11],[11,14]),([11],[11]),([15,16,11],[11,15,16]),([17,11],[11,17]),([12,18,11],[11,12,18]),([11,19],[11,19]),([20,11,0,1,2,3,4,5,6,7,8,9,10,11,12,13,14,15,16,17,18,19,20],[20])] [] 23 [.take 0, .take 1, .take 2, .take 3, .take 4, .take 5, .take 6, .take 7, .take 8, .take 9, .take 10, .take 11, .take 12, .take 13, .take 14, .take 15, .take 16, .take 17, .take 18, .take 19, .take 20, .take 21] [] (by kernel_rfl) (by kernel_rfl) (by decide) (by decide) (by kernel_rfl) (by kernel_rfl) Fl.mk0 HI.out ?_
              refine Fl.take (some 205) (v := .int .i64 (k : Int)) rfl rfl (Or.inl ⟨by rfl, fun _ _ => by rfl⟩) ?_
              simp only [Act.put, Fl.z1, Fl.z2, Fl.z3]
              refine Fl.take (some 206) (v := .pointer (some ⟨g3, k, none⟩)) rfl rfl (Or.inl ⟨by rfl, fun _ _ => by first | rfl | (go_simp; done) | (go_simp; rfl) | (go_simp; omega)⟩) ?_
              simp only [Act.put, Fl.z1, Fl.z2, Fl.z3]
              refine Fl.take (some 207) (v := .int .u8 x) rfl rfl (Fl.ldc 0 k rfl (by rfl) _ _ rfl rfl (Ky.bs_get HX.out) Try.underlying5 rfl) ?_
              simp only [Act.put, Fl.z1, Fl.z2, Fl.z3]
              refine Fl.take (some 208) (v := .int .u8 mk) rfl rfl (Or.inl ⟨by rfl, fun _ _ => by rfl⟩) ?_
              simp only [Act.put, Fl.z1, Fl.z2, Fl.z3]
              refine Fl.take (some 209) (v := .int .u8 px) rfl rfl (Or.inl ⟨by rfl, fun _ _ => by have h_ := HPX.out; first | (go_simp; done) | (go_simp; rw [h_]; done) | (go_simp; simp only [h_]; done) | (go_simp; rw [h_]; rfl)⟩) ?_
              simp only [Act.put, Fl.z1, Fl.z2, Fl.z3]
              refine Fl.take (some 210) (v := .int .i64 (k : Int)) rfl rfl (Or.inl ⟨by rfl, fun _ _ => by rfl⟩) ?_
              simp only [Act.put, Fl.z1, Fl.z2, Fl.z3]
              refine Fl.take (some 211) (v := .pointer (some ⟨g4, k, none⟩)) rfl rfl (Or.inl ⟨by rfl, fun _ _ => by first | rfl | (go_simp; done) | (go_simp; rfl) | (go_simp; omega)⟩) ?_
              simp only [Act.put, Fl.z1, Fl.z2, Fl.z3]
              refine Fl.take (some 212) (v := .int .u8 y) rfl rfl (Fl.ldc 1 k rfl (by rfl) _ _ rfl rfl (Ky.bs_get HY.out) Try.underlying5 rfl) ?_
              simp only [Act.put, Fl.z1, Fl.z2, Fl.z3]
              refine Fl.take (some 213) (v := .int .u8 mk) rfl rfl (Or.inl ⟨by rfl, fun _ _ => by rfl⟩) ?_
              simp only [Act.put, Fl.z1, Fl.z2, Fl.z3]
              refine Fl.take (some 214) (v := .int .u8 py) rfl rfl (Or.inl ⟨by rfl, fun _ _ => by have h_ := HPY.out; first | (go_simp; done) | (go_simp; rw [h_]; done) | (go_simp; simp only [h_]; done) | (go_simp; rw [h_]; rfl)⟩) ?_
              simp only [Act.put, Fl.z1, Fl.z2, Fl.z3]
              refine Fl.take (some 215) (v := .bool true) rfl rfl (Or.inl ⟨by rfl, fun _ _ => by have h_ := eq_false HDX.out; first | (go_simp; done) | (go_simp; rfl) | (go_simp; simp [h_]; done) | (go_simp; simp; omega)⟩) ?_
              simp only [Act.put, Fl.z1, Fl.z2, Fl.z3]
              refine Fl.take (some 216) (v := .bool true) rfl rfl (Or.inl ⟨by rfl, fun _ _ => by rfl⟩) ?_
              simp only [Act.put, Fl.z1, Fl.z2, Fl.z3]
              refine Fl.take (some 217) (v := .bool ls) rfl rfl (Or.inl ⟨by rfl, fun _ _ => by rfl⟩) ?_
              simp only [Act.put, Fl.z1, Fl.z2, Fl.z3]
              refine Fl.take (some 218) (v := .int .i64 (k : Int)) rfl rfl (Or.inl ⟨by rfl, fun _ _ => by rfl⟩) ?_
              simp only [Act.put, Fl.z1, Fl.z2, Fl.z3]
              refine Fl.take (some 219) (v := .pointer (some ⟨g3, k, none⟩)) rfl rfl (Or.inl ⟨by rfl, fun _ _ => by first | rfl | (go_simp; done) | (go_simp; rfl) | (go_simp; omega)⟩) ?_
              simp only [Act.put, Fl.z1, Fl.z2, Fl.z3]
              refine Fl.take (some 220) (v := .int .u8 x) rfl rfl (Fl.ldc 0 k rfl (by rfl) _ _ rfl rfl (Ky.bs_get HX.out) Try.underlying5 rfl) ?_
              simp only [Act.put, Fl.z1, Fl.z2, Fl.z3]
              refine Fl.take (some 221) (v := .int .u8 mk) rfl rfl (Or.inl ⟨by rfl, fun _ _ => by rfl⟩) ?_
              simp only [Act.put, Fl.z1, Fl.z2, Fl.z3]
              refine Fl.take (some 222) (v := .int .u8 px) rfl rfl (Or.inl ⟨by rfl, fun _ _ => by have h_ := HPX.out; first | (go_simp; done) | (go_simp; rw [h_]; done) | (go_simp; simp only [h_]; done) | (go_simp; rw [h_]; rfl)⟩) ?_
              simp only [Act.put, Fl.z1, Fl.z2, Fl.z3]
              refine Fl.take (some 223) (v := .bool ls) rfl rfl (Or.inl ⟨by rfl, fun _ _ => by have h_ := HLZ.out; first | (go_simp; rw [h_]; done) | (go_simp; rw [h_]; rfl) | (rw [h_]; go_simp; done) | (rw [h_]; go_simp; rfl) | (go_simp; simp [h_]; done)⟩) ?_
              simp only [Act.put, Fl.z1, Fl.z2, Fl.z3]
              refine Fl.take (some 224) (v := .bool true) rfl rfl (Or.inl ⟨by rfl, fun _ _ => by first | (go_simp; done) | (go_simp; rfl) | (go_simp; simp)⟩) ?_
              simp only [Act.put, Fl.z1, Fl.z2, Fl.z3]
              refine Fl.take (some 225) (v := .bool true) rfl rfl (Or.inl ⟨by rfl, fun _ _ => by rfl⟩) ?_
              simp only [Act.put, Fl.z1, Fl.z2, Fl.z3]
              refine Fl.take (some 2) (v := .bool true) rfl rfl (Or.inl ⟨by rfl, fun _ _ => by rfl⟩) ?_
              simp only [Act.put, Fl.z1, Fl.z2, Fl.z3]
              refine Fl.fin0 ?_
              refine Fl.stopN (fun W hi => ?_)
              replace HI := Lib.hid hi
              clear hi
              go_wp2
              go_ret
              exact ⟨rfl, HI.out.bel⟩
      | false =>
        go_upto_region 19 with (fail)
        refine Fl.startW [.take 0, .take 1, .take 2, .take 3, .take 4, .take 5, .take 6, .take 7, .take 8, .take 9, .take 10, .take 11] (by decide) HI.out ?_
        refine Fl.take (some 141) (v := .bool false) rfl rfl (Or.inl ⟨by rfl, fun _ _ => by rfl⟩) ?_
        simp only [Act.put, Fl.z1, Fl.z2, Fl.z3]
        refine Fl.take (some 142) (v := .bool false) rfl rfl (Or.inl ⟨by rfl, fun _ _ => by rfl⟩) ?_
        simp only [Act.put, Fl.z1, Fl.z2, Fl.z3]
        refine Fl.take (some 143) (v := undef) rfl rfl (Or.inr ⟨by rfl, rfl⟩) ?_
        simp only [Act.put, Fl.z1, Fl.z2, Fl.z3]
        refine Fl.take (some 144) (v := undef) rfl rfl (Or.inr ⟨by rfl, rfl⟩) ?_
        simp only [Act.put, Fl.z1, Fl.z2, Fl.z3]
        refine Fl.take (some 145) (v := undef) rfl rfl (Or.inr ⟨by rfl, rfl⟩) ?_
        simp only [Act.put, Fl.z1, Fl.z2, Fl.z3]
        refine Fl.take (some 146) (v := undef) rfl rfl (Or.inr ⟨by rfl, rfl⟩) ?_
        simp only [Act.put, Fl.z1, Fl.z2, Fl.z3]
        refine Fl.take (some 147) (v := undef) rfl rfl (Or.inr ⟨by rfl, rfl⟩) ?_
        simp only [Act.put, Fl.z1, Fl.z2, Fl.z3]
        refine Fl.take (some 148) (v := undef) rfl rfl (Or.inr ⟨by rfl, rfl⟩) ?_
        simp only [Act.put, Fl.z1, Fl.z2, Fl.z3]
        refine Fl.take (some 149) (v := undef) rfl rfl (Or.inr ⟨by rfl, rfl⟩) ?_
        simp only [Act.put, Fl.z1, Fl.z2, Fl.z3]
        refine Fl.take (some 150) (v := undef) rfl rfl (Or.inr ⟨by rfl, rfl⟩) ?_
        simp only [Act.put, Fl.z1, Fl.z2, Fl.z3]
        refine Fl.take (some 151) (v := undef) rfl rfl (Or.inr ⟨by rfl, rfl⟩) ?_
        simp only [Act.put, Fl.z1, Fl.z2, Fl.z3]
        refine Fl.take (some 152) (v := .bool false) rfl rfl (Or.inl ⟨by rfl, fun _ _ => by rfl⟩) ?_
        simp only [Act.put, Fl.z1, Fl.z2, Fl.z3]
        refine Fl.stopW (fun W hi => ?_)
        replace HI := Lib.hid hi
        clear hi
        go_upto_region 21 with (fail)
        refine Fl.startW [.one 0, .one 1, .one 2, .take 3] (by decide) HI.out ?_
        refine Fl.ldF (some 153) 10 rfl rfl rfl (by rfl) _ _ rfl rfl Try.underlying26 rfl (Ky.hKk HGB.out.1) ?_
        simp only [Act.put, Fl.z1, Fl.z2, Fl.z3]
        refine Fl.ldF (some 154) 11 rfl rfl rfl (by rfl) _ _ rfl rfl Try.underlying26 rfl (Ky.hKk HGA.out.1) ?_
        simp only [Act.put, Fl.z1, Fl.z2, Fl.z3]
        refine Fl.call (some 155) Try.func22 (by kernel_rfl) rfl #[.agg (Ky.bs b), .agg (Ky.bs a)] rfl rfl rfl (by rfl) rfl (fun E2 W2 hE2 hi => ?_)
        refine (impl_LessKey.calls b a bk W2 HGB.out.1 HGA.out.1 HLB.out).mono ?_
        rintro e W' ⟨rfl, hb⟩
        refine Fl.keep (v := .bool bk) hi hb ?_
        clear hi hb hE2
        simp only [Act.put, Fl.z1, Fl.z2, Fl.z3]
        refine Fl.take (some 23) (v := .bool bk) rfl rfl (Or.inl ⟨by rfl, fun _ _ => by rfl⟩) ?_
        simp only [Act.put, Fl.z1, Fl.z2, Fl.z3]
        refine Fl.stopW (fun W hi => ?_)
        replace HI := Lib.hid hi
        clear hi
        by_cases hab : a = b
        · have HD : Hid (decide (a = b) = true) := Lib.hid (decide_eq_true hab)
          obtain rfl : ls = false := by rw [HEL.out, hab]; exact Ky.less_self b
          obtain rfl : bk = false := by rw [HEB.out, hab]; exact Ky.less_self b
          obtain rfl : cb = 128 := by rw [HEC.out, hab, Ky.common_self, show b.length = 16 from HGB.out.1]
          clear hab
          go_upto_region 22 with (fail)
          refine Fl.startW [.one 0, .one 1, .take 2, .take 3, .take 4, .take 5, .take 6, .one 7, .one 8, .take 9, .take 10, .take 11, .take 12, .take 13, .take 14, .take 15, .take 16, .take 17, .take 18, .take 19, .take 20, .take 21, .take 22, .one 23, .one 24, .one 25, .take 26, .take 27, .take 28] (by decide) HI.out ?_
          refine Fl.ldF (some 156) 11 rfl rfl rfl (by rfl) _ _ rfl rfl Try.underlying26 rfl (Ky.hKk HGA.out.1) ?_
          simp only [Act.put, Fl.z1, Fl.z2, Fl.z3]
          refine Fl.ldF (some 157) 10 rfl rfl rfl (by rfl) _ _ rfl rfl Try.underlying26 rfl (Ky.hKk HGB.out.1) ?_
          simp only [Act.put, Fl.z1, Fl.z2, Fl.z3]
          refine Fl.take (some 158) (v := .bool true) rfl rfl (Ky.yields_eqKeyB HD.out HGA.out.1 HGB.out.1 (by rfl) _ _ _ rfl rfl rfl) ?_
          simp only [Act.put, Fl.z1, Fl.z2, Fl.z3]
          refine Fl.take (some 159) (v := .int .i64 ((128 : Nat) : Int)) rfl rfl (Or.inl ⟨by rfl, fun _ _ => by rfl⟩) ?_
          simp only [Act.put, Fl.z1, Fl.z2, Fl.z3]
          refine Fl.take (some 160) (v := .bool true) rfl rfl (Or.inl ⟨by rfl, fun _ _ => by first | rfl | (go_simp; done) | (go_simp; rfl)⟩) ?_
          simp only [Act.put, Fl.z1, Fl.z2, Fl.z3]
          refine Fl.take (some 161) (v := .bool false) rfl rfl (Or.inl ⟨by rfl, fun _ _ => by first | rfl | (go_simp; done) | (go_simp; rfl) | (go_simp; simp)⟩) ?_
          simp only [Act.put, Fl.z1, Fl.z2, Fl.z3]
          refine Fl.take (some 162) (v := .bool false) rfl rfl (Or.inl ⟨by rfl, fun _ _ => by rfl⟩) ?_
          simp only [Act.put, Fl.z1, Fl.z2, Fl.z3]
          refine Fl.ldF (some 163) 11 rfl rfl rfl (by rfl) _ _ rfl rfl Try.underlying26 rfl (Ky.hKk HGA.out.1) ?_
          simp only [Act.put, Fl.z1, Fl.z2, Fl.z3]
          refine Fl.ldF (some 164) 10 rfl rfl rfl (by rfl) _ _ rfl rfl Try.underlying26 rfl (Ky.hKk HGB.out.1) ?_
          simp only [Act.put, Fl.z1, Fl.z2, Fl.z3]
          refine Fl.take (some 165) (v := .bool true) rfl rfl (Ky.yields_eqKeyB HD.out HGA.out.1 HGB.out.1 (by rfl) _ _ _ rfl rfl rfl) ?_
          simp only [Act.put, Fl.z1, Fl.z2, Fl.z3]
          refine Fl.take (some 166) (v := .bool false) rfl rfl (Or.inl ⟨by rfl, fun _ _ => by rfl⟩) ?_
          simp only [Act.put, Fl.z1, Fl.z2, Fl.z3]
          refine Fl.take (some 167) (v := .bool false) rfl rfl (Or.inl ⟨by rfl, fun _ _ => by rfl⟩) ?_
          simp only [Act.put, Fl.z1, Fl.z2, Fl.z3]
          refine Fl.take (some 168) (v := .bool false) rfl rfl (Or.inl ⟨by rfl, fun _ _ => by rfl⟩) ?_
          simp only [Act.put, Fl.z1, Fl.z2, Fl.z3]
          refine Fl.take (some 169) (v := .bool false) rfl rfl (Or.inl ⟨by rfl, fun _ _ => by rfl⟩) ?_
          simp only [Act.put, Fl.z1, Fl.z2, Fl.z3]
          refine Fl.take (some 170) (v := .bool false) rfl rfl (Or.inl ⟨by rfl, fun _ _ => by first | rfl | (go_simp; done) | (go_simp; rfl) | (go_simp; simp)⟩) ?_
          simp only [Act.put, Fl.z1, Fl.z2, Fl.z3]
          refine Fl.take (some 171) (v := .bool false) rfl rfl (Or.inl ⟨by rfl, fun _ _ => by rfl⟩) ?_
          simp only [Act.put, Fl.z1, Fl.z2, Fl.z3]
          refine Fl.take (some 172) (v := .bool false) rfl rfl (Or.inl ⟨by rfl, fun _ _ => by rfl⟩) ?_
          simp only [Act.put, Fl.z1, Fl.z2, Fl.z3]
          refine Fl.take (some 173) (v := .bool false) rfl rfl (Or.inl ⟨by rfl, fun _ _ => by rfl⟩) ?_
          simp only [Act.put, Fl.z1, Fl.z2, Fl.z3]
          refine Fl.take (some 174) (v := .bool false) rfl rfl (Or.inl ⟨by rfl, fun _ _ => by rfl⟩) ?_
          simp only [Act.put, Fl.z1, Fl.z2, Fl.z3]
          refine Fl.take (some 175) (v := undef) rfl rfl (Or.inr ⟨by rfl, rfl⟩) ?_
          simp only [Act.put, Fl.z1, Fl.z2, Fl.z3]
          refine Fl.take (some 176) (v := .bool false) rfl rfl (Or.inl ⟨by rfl, fun _ _ => by rfl⟩) ?_
          simp only [Act.put, Fl.z1, Fl.z2, Fl.z3]
          refine Fl.take (some 177) (v := .bool false) rfl rfl (Or.inl ⟨by rfl, fun _ _ => by rfl⟩) ?_
          simp only [Act.put, Fl.z1, Fl.z2, Fl.z3]
          refine Fl.take (some 178) (v := .bool false) rfl rfl (Or.inl ⟨by rfl, fun _ _ => by rfl⟩) ?_
          simp only [Act.put, Fl.z1, Fl.z2, Fl.z3]
          refine Fl.ldF (some 179) 10 rfl rfl rfl (by rfl) _ _ rfl rfl Try.underlying26 rfl (Ky.hKk HGB.out.1) ?_
          simp only [Act.put, Fl.z1, Fl.z2, Fl.z3]
          refine Fl.ldF (some 180) 11 rfl rfl rfl (by rfl) _ _ rfl rfl Try.underlying26 rfl (Ky.hKk HGA.out.1) ?_
          simp only [Act.put, Fl.z1, Fl.z2, Fl.z3]
          refine Fl.call (some 181) Try.func23 (by kernel_rfl) rfl #[.agg (Ky.bs b), .agg (Ky.bs a)] rfl rfl rfl (by rfl) rfl (fun E2 W2 hE2 hi => ?_)
          refine (impl_CommonBits.calls b a ((128 : Nat) : Int) W2 HGB.out.1 HGA.out.1 HCB.out).mono ?_
          rintro e W' ⟨rfl, hb⟩
          refine Fl.keep (v := .int .i64 ((128 : Nat) : Int)) hi hb ?_
          clear hi hb hE2
          simp only [Act.put, Fl.z1, Fl.z2, Fl.z3]
          refine Fl.take (some 182) (v := .int .i64 ((128 : Nat) : Int)) rfl rfl (Or.inl ⟨by rfl, fun _ _ => by rfl⟩) ?_
          simp only [Act.put, Fl.z1, Fl.z2, Fl.z3]
          refine Fl.take (some 183) (v := .bool false) rfl rfl (Or.inl ⟨by rfl, fun _ _ => by first | rfl | (go_simp; done) | (go_simp; rfl) | (go_simp; simp)⟩) ?_
          simp only [Act.put, Fl.z1, Fl.z2, Fl.z3]
          refine Fl.take (some 184) (v := .bool false) rfl rfl (Or.inl ⟨by rfl, fun _ _ => by rfl⟩) ?_
          simp only [Act.put, Fl.z1, Fl.z2, Fl.z3]
          refine Fl.stopW (fun W hi => ?_)
          replace HI := Lib.hid hi
          clear hi
          go_upto_region 24 with (fail)
          refine Fl.startW [.one 0, .one 1, .take 2] (by decide) HI.out ?_
          refine Fl.ldF (some 185) 11 rfl rfl rfl (by rfl) _ _ rfl rfl Try.underlying26 rfl (Ky.hKk HGA.out.1) ?_
          simp only [Act.put, Fl.z1, Fl.z2, Fl.z3]
          refine Fl.ldF (some 186) 10 rfl rfl rfl (by rfl) _ _ rfl rfl Try.underlying26 rfl (Ky.hKk HGB.out.1) ?_
          simp only [Act.put, Fl.z1, Fl.z2, Fl.z3]
          refine Fl.take (some 187) (v := .bool true) rfl rfl (Ky.yields_eqKeyB HD.out HGA.out.1 HGB.out.1 (by rfl) _ _ _ rfl rfl rfl) ?_
          simp only [Act.put, Fl.z1, Fl.z2, Fl.z3]
          refine Fl.stopW (fun W hi => ?_)
          replace HI := Lib.hid hi
          clear hi
          go_wp2
          go_ret
          exact ⟨rfl, HI.out.bel⟩
        · have HD : Hid (decide (a = b) = false) := Lib.hid (decide_eq_false hab)
          obtain ⟨n, c_, x, y, hn, hc8, hx, hy, hal, hcm, hd, hlz, hlb⟩ := Ky.keys_ne HGA.out.1 HGB.out.1 HGA.out.2 HGB.out.2 hab
          rw [← HEC.out] at hcm
          obtain rfl : bk = !ls := by rw [HEB.out, HEL.out]; exact hlb
          rw [← HEL.out] at hlz
          have HNE : Hid (¬ (cb : Int) = 128) := Lib.hid (by omega)
          have HC8 := Lib.hid hc8
          have HNN := Lib.hid hn
          have HX := Lib.hid hx
          have HY := Lib.hid hy
          have HAL := Lib.hid hal
          have HDX := Lib.hid hd
          have HLZ := Lib.hid hlz
          have HQ1 : Hid (IntKind.i64.wrap (Int.tdiv (cb : Int) 8) = (n : Int)) := Lib.hid (by rw [IntKind.wrap_i64, Int.tdiv_eq_ediv_of_nonneg (by omega)]; omega)
          have HQ2 : Hid (Int.tmod (cb : Int) 8 = ((7 - c_ : Nat) : Int)) := Lib.hid (by rw [Int.tmod_eq_emod_of_nonneg (by omega)]; omega)
          clear hab hn hc8 hx hy hal hd hlz hlb hcm
          go_upto_region 22 with (fail)
          refine Fl.startW [.one 0, .one 1, .take 2, .take 3, .take 4, .take 5, .take 6, .one 7, .one 8, .take 9, .take 10, .take 11, .take 12, .take 13, .take 14, .take 15, .take 16, .take 17, .take 18, .take 19, .take 20, .take 21, .take 22, .one 23, .one 24, .one 25, .take 26, .take 27, .take 28] (by decide) HI.out ?_
          refine Fl.ldF (some 156) 11 rfl rfl rfl (by rfl) _ _ rfl rfl Try.underlying26 rfl (Ky.hKk HGA.out.1) ?_
          simp only [Act.put, Fl.z1, Fl.z2, Fl.z3]
          refine Fl.ldF (some 157) 10 rfl rfl rfl (by rfl) _ _ rfl rfl Try.underlying26 rfl (Ky.hKk HGB.out.1) ?_
          simp only [Act.put, Fl.z1, Fl.z2, Fl.z3]
          refine Fl.take (some 158) (v := .bool false) rfl rfl (Ky.yields_eqKeyB HD.out HGA.out.1 HGB.out.1 (by rfl) _ _ _ rfl rfl rfl) ?_
          simp only [Act.put, Fl.z1, Fl.z2, Fl.z3]
          refine Fl.take (some 159) (v := .int .i64 (cb : Int)) rfl rfl (Or.inl ⟨by rfl, fun _ _ => by rfl⟩) ?_
          simp only [Act.put, Fl.z1, Fl.z2, Fl.z3]
          refine Fl.take (some 160) (v := .bool false) rfl rfl (Or.inl ⟨by rfl, fun _ _ => by have h_ := eq_false HNE.out; first | (go_simp; done) | (go_simp; rfl) | (go_simp; simp [h_]; done) | (go_simp; simp; omega)⟩) ?_
          simp only [Act.put, Fl.z1, Fl.z2, Fl.z3]
          refine Fl.take (some 161) (v := .bool false) rfl rfl (Or.inl ⟨by rfl, fun _ _ => by first | rfl | (go_simp; done) | (go_simp; rfl) | (go_simp; simp)⟩) ?_
          simp only [Act.put, Fl.z1, Fl.z2, Fl.z3]
          refine Fl.take (some 162) (v := .bool false) rfl rfl (Or.inl ⟨by rfl, fun _ _ => by rfl⟩) ?_
          simp only [Act.put, Fl.z1, Fl.z2, Fl.z3]
          refine Fl.ldF (some 163) 11 rfl rfl rfl (by rfl) _ _ rfl rfl Try.underlying26 rfl (Ky.hKk HGA.out.1) ?_
          simp only [Act.put, Fl.z1, Fl.z2, Fl.z3]
          refine Fl.ldF (some 164) 10 rfl rfl rfl (by rfl) _ _ rfl rfl Try.underlying26 rfl (Ky.hKk HGB.out.1) ?_
          simp only [Act.put, Fl.z1, Fl.z2, Fl.z3]
          refine Fl.take (some 165) (v := .bool false) rfl rfl (Ky.yields_eqKeyB HD.out HGA.out.1 HGB.out.1 (by rfl) _ _ _ rfl rfl rfl) ?_
          simp only [Act.put, Fl.z1, Fl.z2, Fl.z3]
          refine Fl.take (some 166) (v := .bool ls) rfl rfl (Or.inl ⟨by rfl, fun _ _ => by rfl⟩) ?_
          simp only [Act.put, Fl.z1, Fl.z2, Fl.z3]
          refine Fl.take (some 167) (v := .bool ls) rfl rfl (Or.inl ⟨by rfl, fun _ _ => by rfl⟩) ?_
          simp only [Act.put, Fl.z1, Fl.z2, Fl.z3]
          refine Fl.take (some 168) (v := (cond ls undef (.bool (!ls)))) rfl rfl (by cases ls <;> first | exact Or.inr ⟨by rfl, by rfl⟩ | exact Or.inl ⟨by rfl, fun _ _ => by first | rfl | (go_simp; done) | (go_simp; rfl)⟩) ?_
          simp only [Act.put, Fl.z1, Fl.z2, Fl.z3]
          refine Fl.take (some 169) (v := .bool true) rfl rfl (by cases ls <;> first | exact Or.inr ⟨by rfl, by rfl⟩ | exact Or.inl ⟨by rfl, fun _ _ => by first | rfl | (go_simp; done) | (go_simp; rfl)⟩) ?_
          simp only [Act.put, Fl.z1, Fl.z2, Fl.z3]
          refine Fl.take (some 170) (v := .bool false) rfl rfl (Or.inl ⟨by rfl, fun _ _ => by first | rfl | (go_simp; done) | (go_simp; rfl) | (go_simp; simp)⟩) ?_
          simp only [Act.put, Fl.z1, Fl.z2, Fl.z3]
          refine Fl.take (some 171) (v := .bool false) rfl rfl (Or.inl ⟨by rfl, fun _ _ => by rfl⟩) ?_
          simp only [Act.put, Fl.z1, Fl.z2, Fl.z3]
          refine Fl.take (some 172) (v := .bool false) rfl rfl (Or.inl ⟨by rfl, fun _ _ => by rfl⟩) ?_
          simp only [Act.put, Fl.z1, Fl.z2, Fl.z3]
          refine Fl.take (some 173) (v := .bool ls) rfl rfl (Or.inl ⟨by rfl, fun _ _ => by rfl⟩) ?_
          simp only [Act.put, Fl.z1, Fl.z2, Fl.z3]
          refine Fl.take (some 174) (v := .bool ls) rfl rfl (Or.inl ⟨by rfl, fun _ _ => by rfl⟩) ?_
          simp only [Act.put, Fl.z1, Fl.z2, Fl.z3]
          refine Fl.take (some 175) (v := (cond ls (.bool (!ls)) undef)) rfl rfl (by cases ls <;> first | exact Or.inr ⟨by rfl, by rfl⟩ | exact Or.inl ⟨by rfl, fun _ _ => by first | rfl | (go_simp; done) | (go_simp; rfl)⟩) ?_
          simp only [Act.put, Fl.z1, Fl.z2, Fl.z3]
          refine Fl.take (some 176) (v := .bool false) rfl rfl (by cases ls <;> first | exact Or.inr ⟨by rfl, by rfl⟩ | exact Or.inl ⟨by rfl, fun _ _ => by first | rfl | (go_simp; done) | (go_simp; rfl)⟩) ?_
          simp only [Act.put, Fl.z1, Fl.z2, Fl.z3]
          refine Fl.take (some 177) (v := .bool false) rfl rfl (Or.inl ⟨by rfl, fun _ _ => by rfl⟩) ?_
          simp only [Act.put, Fl.z1, Fl.z2, Fl.z3]
          refine Fl.take (some 178) (v := .bool false) rfl rfl (Or.inl ⟨by rfl, fun _ _ => by rfl⟩) ?_
          simp only [Act.put, Fl.z1, Fl.z2, Fl.z3]
          refine Fl.ldF (some 179) 10 rfl rfl rfl (by rfl) _ _ rfl rfl Try.underlying26 rfl (Ky.hKk HGB.out.1) ?_
          simp only [Act.put, Fl.z1, Fl.z2, Fl.z3]
          refine Fl.ldF (some 180) 11 rfl rfl rfl (by rfl) _ _ rfl rfl Try.underlying26 rfl (Ky.hKk HGA.out.1) ?_
          simp only [Act.put, Fl.z1, Fl.z2, Fl.z3]
          refine Fl.call (some 181) Try.func23 (by kernel_rfl) rfl #[.agg (Ky.bs b), .agg (Ky.bs a)] rfl rfl rfl (by rfl) rfl (fun E2 W2 hE2 hi => ?_)
          refine (impl_CommonBits.calls b a (cb : Int) W2 HGB.out.1 HGA.out.1 HCB.out).mono ?_
          rintro e W' ⟨rfl, hb⟩
          refine Fl.keep (v := .int .i64 (cb : Int)) hi hb ?_
          clear hi hb hE2
          simp only [Act.put, Fl.z1, Fl.z2, Fl.z3]
          refine Fl.take (some 182) (v := .int .i64 (cb : Int)) rfl rfl (Or.inl ⟨by rfl, fun _ _ => by rfl⟩) ?_
          simp only [Act.put, Fl.z1, Fl.z2, Fl.z3]
          refine Fl.take (some 183) (v := .bool false) rfl rfl (Or.inl ⟨by rfl, fun _ _ => by first | rfl | (go_simp; done) | (go_simp; rfl) | (go_simp; simp)⟩) ?_
          simp only [Act.put, Fl.z1, Fl.z2, Fl.z3]
          refine Fl.take (some 184) (v := .bool false) rfl rfl (Or.inl ⟨by rfl, fun _ _ => by rfl⟩) ?_
          simp only [Act.put, Fl.z1, Fl.z2, Fl.z3]
          refine Fl.stopW (fun W hi => ?_)
          replace HI := Lib.hid hi
          clear hi
          go_upto_region 24 with (fail)
          refine Fl.startW [.one 0, .one 1, .take 2] (by decide) HI.out ?_
          refine Fl.ldF (some 185) 11 rfl rfl rfl (by rfl) _ _ rfl rfl Try.underlying26 rfl (Ky.hKk HGA.out.1) ?_
          simp only [Act.put, Fl.z1, Fl.z2, Fl.z3]
          refine Fl.ldF (some 186) 10 rfl rfl rfl (by rfl) _ _ rfl rfl Try.underlying26 rfl (Ky.hKk HGB.out.1) ?_
          simp only [Act.put, Fl.z1, Fl.z2, Fl.z3]
          refine Fl.take (some 187) (v := .bool false) rfl rfl (Ky.yields_eqKeyB HD.out HGA.out.1 HGB.out.1 (by rfl) _ _ _ rfl rfl rfl) ?_
          simp only [Act.put, Fl.z1, Fl.z2, Fl.z3]
          refine Fl.stopW (fun W hi => ?_)
          replace HI := Lib.hid hi
          clear hi
          go_upto_region 26 with (fail)
          refine Fl.startW [.take 0, .take 1, .take 2] (by decide) HI.out ?_
          refine Fl.take (some 188) (v := .int .i64 (cb : Int)) rfl rfl (Or.inl ⟨by rfl, fun _ _ => by rfl⟩) ?_
          simp only [Act.put, Fl.z1, Fl.z2, Fl.z3]
          refine Fl.take (some 189) (v := .int .i64 (n : Int)) rfl rfl (Fz.yields_quo (by rfl) _ _ _ _ rfl (cb : Int) 8 (n : Int) rfl rfl (by decide) HQ1.out) ?_
          simp only [Act.put, Fl.z1, Fl.z2, Fl.z3]
          refine Fl.take (some 24) (v := .int .i64 (n : Int)) rfl rfl (Or.inl ⟨by rfl, fun _ _ => by rfl⟩) ?_
          simp only [Act.put, Fl.z1, Fl.z2, Fl.z3]
          refine Fl.stopW (fun W hi => ?_)
          replace HI := Lib.hid hi
          clear hi
          go_upto_region 27 with (fail)
          refine Fl.startW [.take 0, .take 1, .take 2, .take 3] (by decide) HI.out ?_
          refine Fl.take (some 190) (v := .int .i64 (cb : Int)) rfl rfl (Or.inl ⟨by rfl, fun _ _ => by rfl⟩) ?_
          simp only [Act.put, Fl.z1, Fl.z2, Fl.z3]
          refine Fl.take (some 191) (v := .int .i64 ((7 - c_ : Nat) : Int)) rfl rfl (Fz.yields_rem (by rfl) _ _ _ _ rfl (cb : Int) 8 ((7 - c_ : Nat) : Int) rfl rfl (by decide) HQ2.out) ?_
          simp only [Act.put, Fl.z1, Fl.z2, Fl.z3]
          refine Fl.take (some 192) (v := .int .u8 ((2 ^ c_ : Nat) : Int)) rfl rfl (Ky.yields_shr HC8.out (by rfl) _ _ _ _ rfl rfl rfl) ?_
          simp only [Act.put, Fl.z1, Fl.z2, Fl.z3]
          refine Fl.take (some 25) (v := .int .u8 ((2 ^ c_ : Nat) : Int)) rfl rfl (Or.inl ⟨by rfl, fun _ _ => by rfl⟩) ?_
          simp only [Act.put, Fl.z1, Fl.z2, Fl.z3]
          refine Fl.stopW (fun W hi => ?_)
          replace HI := Lib.hid hi
          clear hi
          obtain ⟨mk, hmk⟩ : ∃ x, x = ((2 ^ c_ : Nat) : Int) := ⟨_, rfl⟩
          rw [← hmk] at HDX HLZ
          rw [← hmk]
          clear hmk HC8
          replace HI : Hid (Lv.Inv w W [Lv.boxF g3 (Ky.bs a) 26, Lv.boxF g4 (Ky.bs b) 26]) := Lib.hid (Fl.inv_sel HI.out [11, 10] (by decide))
          go_wp2
          go_loopg [26] n (fun gg s26 wr => ∃ k : Nat, s26 = .int .i64 (k : Int) ∧ Hid (k ≤ n ∧ n - k ≤ gg) ∧ Hid (Lv.Inv w wr [Lv.boxF g3 (Ky.bs a) 26, Lv.boxF g4 (Ky.bs b) 26]))
          case atStart => exact ⟨0, rfl, Lib.hid (by simp), HI⟩
          case round =>
            clear HI
            obtain ⟨k, rfl, HK, HI⟩ := hrel
            by_cases hlt : k < n
            · have k0 : (0 : Int) ≤ (k : Int) := by omega
              have k1 : (k : Int) < (n : Int) := by omega
              have k2 : (k : Int) < 16 := by have := HNN.out; omega
              obtain ⟨z, hz⟩ : ∃ z, a[k]? = some z := ⟨_, List.getElem?_eq_getElem (by rw [show a.length = 16 from HGA.out.1]; omega)⟩
              have HZA := Lib.hid hz
              have HZB : Hid (b[k]? = some z) := Lib.hid (by rw [← HAL.out k hlt]; exact hz)
              clear hz
              go_upto_region 31 with (fail)
              refine Fl.start [([],[]),([0],[0]),([1],[1]),([],[]),([3],[3]),([4],[4]),([2,5],[2,5])] [] 8 [.take 0, .take 1, .take 2, .take 3, .take 4, .take 5, .take 6] [] (by kernel_rfl) (by kernel_rfl) (by decide) (by decide) (by kernel_rfl) (by kernel_rfl) Fl.mk0 HI.out ?_
              refine Fl.take (some 198) (v := .int .i64 (k : Int)) rfl rfl (Or.inl ⟨by rfl, fun _ _ => by rfl⟩) ?_
              simp only [Act.put, Fl.z1, Fl.z2, Fl.z3]
              refine Fl.take (some 199) (v := .pointer (some ⟨g3, k, none⟩)) rfl rfl (Or.inl ⟨by rfl, fun _ _ => by first | rfl | (go_simp; done) | (go_simp; rfl) | (go_simp; omega)⟩) ?_
              simp only [Act.put, Fl.z1, Fl.z2, Fl.z3]
              refine Fl.take (some 200) (v := .int .u8 z) rfl rfl (Fl.ldc 0 k rfl (by rfl) _ _ rfl rfl (Ky.bs_get HZA.out) Try.underlying5 rfl) ?_
              simp only [Act.put, Fl.z1, Fl.z2, Fl.z3]
              refine Fl.take (some 201) (v := .int .i64 (k : Int)) rfl rfl (Or.inl ⟨by rfl, fun _ _ => by rfl⟩) ?_
              simp only [Act.put, Fl.z1, Fl.z2, Fl.z3]
              refine Fl.take (some 202) (v := .pointer (some ⟨g4, k, none⟩)) rfl rfl (Or.inl ⟨by rfl, fun _ _ => by first | rfl | (go_simp; done) | (go_simp; rfl) | (go_simp; omega)⟩) ?_
              simp only [Act.put, Fl.z1, Fl.z2, Fl.z3]
              refine Fl.take (some 203) (v := .int .u8 z) rfl rfl (Fl.ldc 1 k rfl (by rfl) _ _ rfl rfl (Ky.bs_get HZB.out) Try.underlying5 rfl) ?_
              simp only [Act.put, Fl.z1, Fl.z2, Fl.z3]
              refine Fl.take (some 204) (v := .bool false) rfl rfl (Or.inl ⟨by rfl, fun _ _ => by first | rfl | (go_simp; done) | (go_simp; rfl) | (go_simp; simp)⟩) ?_
              simp only [Act.put, Fl.z1, Fl.z2, Fl.z3]
              refine Fl.fin0 ?_
              refine Fl.stopN (fun W hi => ?_)
              replace HI := Lib.hid hi
              clear hi
              go_wp2
              go_roundg (n - (k + 1))
              case measure => have := HK.out; omega
              case rel => exact ⟨k + 1, by go_num, Lib.hid (by have := HK.out; omega), HI⟩
            · obtain rfl : k = n := by have := HK.out; omega
              have k1 : ¬ (k : Int) < (k : Int) := by omega
              have k0 : (0 : Int) ≤ (k : Int) := by omega
              have k2 : (k : Int) < 16 := by have := HNN.out; omega
              obtain ⟨px, hpx⟩ : ∃ v, v = Go.bits .and .u8 x mk := ⟨_, rfl⟩
              obtain ⟨py, hpy⟩ : ∃ v, v = Go.bits .and .u8 y mk := ⟨_, rfl⟩
              rw [← hpx, ← hpy] at HDX
              rw [← hpx] at HLZ
              have HPX := Lib.hid hpx.symm
              have HPY := Lib.hid hpy.symm
              clear hpx hpy
              go_upto_region 33 with (fail)
              refine Fl.start [([],[]),([0],[0]),([1],[1]),([],[]),([2,3],[2,3]),([],[]),([5],[5]),([6],[6]),([],[]),([7,8],[7,8]),([4,9],[4,9]),([10],[10]),([11],[11]),([11],[11]),([13,11],[11,13]),([14,11],[11,14]),([11],[11]),([15,16,11],[11,15,16]),([17,11],[11,17]),([12,18,11],[11,12,18]),([11,19],[11,19]),([20,11,0,1,2,3,4,5,6,7,8,9,10,11,12,13,14,15,16,17,18,19,20],[20])] [] 23 [.take 0, .take 1, .take 2, .take 3, .take 4, .take 5, .take 6, .take 7, .take 8, .take 9, .take 10, .take 11, .take 12, .take 13, .take 14, .take 15, .take 16, .take 17, .take 18, .take 19, .take 20, .take 21] [] (by kernel_rfl) (by kernel_rfl) (by decide) (by decide) (by kernel_rfl) (by kernel_rfl) Fl.mk0 HI.out ?_
              refine Fl.take (some 205) (v := .int .i64 (k : Int)) rfl rfl (Or.inl ⟨by rfl, fun _ _ => by rfl⟩) ?_
              simp only [Act.put, Fl.z1, Fl.z2, Fl.z3]
              refine Fl.take (some 206) (v := .pointer (some ⟨g3, k, none⟩)) rfl rfl (Or.inl ⟨by rfl, fun _ _ => by first | rfl | (go_simp; done) | (go_simp; rfl) | (go_simp; omega)⟩) ?_
              simp only [Act.put, Fl.z1, Fl.z2, Fl.z3]
              refine Fl.take (some 207) (v := .int .u8 x) rfl rfl (Fl.ldc 0 k rfl (by rfl) _ _ rfl rfl (Ky.bs_get HX.out) Try.underlying5 rfl) ?_
              simp only [Act.put, Fl.z1, Fl.z2, Fl.z3]
              refine Fl.take (some 208) (v := .int .u8 mk) rfl rfl (Or.inl ⟨by rfl, fun _ _ => by rfl⟩) ?_
              simp only [Act.put, Fl.z1, Fl.z2, Fl.z3]
              refine Fl.take (some 209) (v := .int .u8 px) rfl rfl (Or.inl ⟨by rfl, fun _ _ => by have h_ := HPX.out; first | (go_simp; done) | (go_simp; rw [h_]; done) | (go_simp; simp only [h_]; done) | (go_simp; rw [h_]; rfl)⟩) ?_
              simp only [Act.put, Fl.z1, Fl.z2, Fl.z3]
              refine Fl.take (some 210) (v := .int .i64 (k : Int)) rfl rfl (Or.inl ⟨by rfl, fun _ _ => by rfl⟩) ?_
              simp only [Act.put, Fl.z1, Fl.z2, Fl.z3]
              refine Fl.take (some 211) (v := .pointer (some ⟨g4, k, none⟩)) rfl rfl (Or.inl ⟨by rfl, fun _ _ => by first | rfl | (go_simp; done) | (go_simp; rfl) | (go_simp; omega)⟩) ?_
              simp only [Act.put, Fl.z1, Fl.z2, Fl.z3]
              refine Fl.take (some 212) (v := .int .u8 y) rfl rfl (Fl.ldc 1 k rfl (by rfl) _ _ rfl rfl (Ky.bs_get HY.out) Try.underlying5 rfl) ?_
              simp only [Act.put, Fl.z1, Fl.z2, Fl.z3]
              refine Fl.take (some 213) (v := .int .u8 mk) rfl rfl (Or.inl ⟨by rfl, fun _ _ => by rfl⟩) ?_
              simp only [Act.put, Fl.z1, Fl.z2, Fl.z3]
              refine Fl.take (some 214) (v := .int .u8 py) rfl rfl (Or.inl ⟨by rfl, fun _ _ => by have h_ := HPY.out; first | (go_simp; done) | (go_simp; rw [h_]; done) | (go_simp; simp only [h_]; done) | (go_simp; rw [h_]; rfl)⟩) ?_
              simp only [Act.put, Fl.z1, Fl.z2, Fl.z3]
              refine Fl.take (some 215) (v := .bool true) rfl rfl (Or.inl ⟨by rfl, fun _ _ => by have h_ := eq_false HDX.out; first | (go_simp; done) | (go_simp; rfl) | (go_simp; simp [h_]; done) | (go_simp; simp; omega)⟩) ?_
              simp only [Act.put, Fl.z1, Fl.z2, Fl.z3]
              refine Fl.take (some 216) (v := .bool true) rfl rfl (Or.inl ⟨by rfl, fun _ _ => by rfl⟩) ?_
              simp only [Act.put, Fl.z1, Fl.z2, Fl.z3]
              refine Fl.take (some 217) (v := .bool ls) rfl rfl (Or.inl ⟨by rfl, fun _ _ => by rfl⟩) ?_
              simp only [Act.put, Fl.z1, Fl.z2, Fl.z3]
              refine Fl.take (some 218) (v := .int .i64 (k : Int)) rfl rfl (Or.inl ⟨by rfl, fun _ _ => by rfl⟩) ?_
              simp only [Act.put, Fl.z1, Fl.z2, Fl.z3]
              refine Fl.take (some 219) (v := .pointer (some ⟨g3, k, none⟩)) rfl rfl (Or.inl ⟨by rfl, fun _ _ => by first | rfl | (go_simp; done) | (go_simp; rfl) | (go_simp; omega)⟩) ?_
              simp only [Act.put, Fl.z1, Fl.z2, Fl.z3]
              refine Fl.take (some 220) (v := .int .u8 x) rfl rfl (Fl.ldc 0 k rfl (by rfl) _ _ rfl rfl (Ky.bs_get HX.out) Try.underlying5 rfl) ?_
              simp only [Act.put, Fl.z1, Fl.z2, Fl.z3]
              refine Fl.take (some 221) (v := .int .u8 mk) rfl rfl (Or.inl ⟨by rfl, fun _ _ => by rfl⟩) ?_
              simp only [Act.put, Fl.z1, Fl.z2, Fl.z3]
              refine Fl.take (some 222) (v := .int .u8 px) rfl rfl (Or.inl ⟨by rfl, fun _ _ => by have h_ := HPX.out; first | (go_simp; done) | (go_simp; rw [h_]; done) | (go_simp; simp only [h_]; done) | (go_simp; rw [h_]; rfl)⟩) ?_
              simp only [Act.put, Fl.z1, Fl.z2, Fl.z3]
              refine Fl.take (some 223) (v := .bool ls) rfl rfl (Or.inl ⟨by rfl, fun _ _ => by have h_ := HLZ.out; first | (go_simp; rw [h_]; done) | (go_simp; rw [h_]; rfl) | (rw [h_]; go_simp; done) | (rw [h_]; go_simp; rfl) | (go_simp; simp [h_]; done)⟩) ?_
              simp only [Act.put, Fl.z1, Fl.z2, Fl.z3]
              refine Fl.take (some 224) (v := .bool true) rfl rfl (Or.inl ⟨by rfl, fun _ _ => by first | (go_simp; done) | (go_simp; rfl) | (go_simp; simp)⟩) ?_
              simp only [Act.put, Fl.z1, Fl.z2, Fl.z3]
              refine Fl.take (some 225) (v := .bool true) rfl rfl (Or.inl ⟨by rfl, fun _ _ => by rfl⟩) ?_
              simp only [Act.put, Fl.z1, Fl.z2, Fl.z3]
              refine Fl.take (some 2) (v := .bool true) rfl rfl (Or.inl ⟨by rfl, fun _ _ => by rfl⟩) ?_
              simp only [Act.put, Fl.z1, Fl.z2, Fl.z3]
              refine Fl.fin0 ?_
              refine Fl.stopN (fun W hi => ?_)
              replace HI := Lib.hid hi
              clear hi
              go_wp2
              go_ret
              exact ⟨rfl, HI.out.bel⟩
    | true =>
      obtain ⟨x1, x2, x3, x4, hst, hwb⟩ := HK3.out rfl
      have HST := Lib.hid hst
      have HWB := Lib.hid hwb
      clear hst hwb HK3
      go_upto_region 14 with (fail)
      refine Fl.startW [.take 0] (by decide) HI.out ?_
      refine Fl.take (some 106) (v := .bool true) rfl rfl (Or.inl ⟨by rfl, fun _ _ => by rfl⟩) ?_
      simp only [Act.put, Fl.z1, Fl.z2, Fl.z3]
      refine Fl.stopW (fun W hi => ?_)
      replace HI := Lib.hid hi
      clear hi
      go_upto_region 15 with (fail)
      refine Fl.startW [.one 0, .one 1, .take 2, .take 3, .take 4, .take 5, .take 6, .one 7, .take 8, .take 9, .take 10, .one 11, .one 12, .take 13] (by decide) HI.out ?_
      refine Fl.ldF (some 108) 3 rfl rfl rfl (by rfl) _ _ rfl rfl Try.underlying32 rfl (by kernel_rfl) ?_
      simp only [Act.put, Fl.z1, Fl.z2, Fl.z3]
      refine Fl.ldF (some 109) 2 rfl rfl rfl (by rfl) _ _ rfl rfl Try.underlying54 rfl (by kernel_rfl) ?_
      simp only [Act.put, Fl.z1, Fl.z2, Fl.z3]
      refine Fl.take (some 110) (v := .int .i64 i) rfl rfl (Or.inl ⟨by rfl, fun _ _ => by rfl⟩) ?_
      simp only [Act.put, Fl.z1, Fl.z2, Fl.z3]
      refine Fl.take (some 111) (v := .int .i64 i) rfl rfl (Or.inl ⟨by rfl, fun _ _ => by rfl⟩) ?_
      simp only [Act.put, Fl.z1, Fl.z2, Fl.z3]
      refine Fl.take (some 112) (v := .int .i64 (wrap64 (i + 16))) rfl rfl (Or.inl ⟨by rfl, fun _ _ => by first | (go_simp; done) | (go_simp; simp only [i64_w]; done) | (go_simp; rfl)⟩) ?_
      simp only [Act.put, Fl.z1, Fl.z2, Fl.z3]
      refine Fl.take (some 113) (v := .int .i64 i) rfl rfl (Or.inl ⟨by rfl, fun _ _ => by rfl⟩) ?_
      simp only [Act.put, Fl.z1, Fl.z2, Fl.z3]
      refine Fl.take (some 114) (v := .int .i64 (wrap64 (i + 16))) rfl rfl (Or.inl ⟨by rfl, fun _ _ => by first | (go_simp; done) | (go_simp; simp only [i64_w]; done) | (go_simp; rfl)⟩) ?_
      simp only [Act.put, Fl.z1, Fl.z2, Fl.z3]
      refine Fl.call (some 115) Try.func33 (by kernel_rfl) rfl #[.agg #[.slice Am m.length cm], .agg #[.int .i64 wa, .int .i64 ws, .int .i64 wl, .int .i64 wc], .int .i64 i, .int .i64 (wrap64 (i + 16)), .int .i64 (wrap64 (i + 16))] rfl rfl rfl (by rfl) rfl (fun E2 W2 hE2 hi => ?_)
      refine (impl_SliceThree.calls kk Am cm m wa ws wl wc i (wrap64 (i + 16)) (wrap64 (i + 16)) x1 x2 x3 x4 true W2 (hi.cS 4 rfl) (hi.lS 4 rfl) HST.out).mono ?_
      rintro e W' ⟨rfl, hb⟩
      refine Fl.keep (v := .tuple #[.agg #[.int .i64 x1, .int .i64 x2, .int .i64 x3, .int .i64 x4], .bool true]) hi hb ?_
      clear hi hb hE2
      simp only [Act.put, Fl.z1, Fl.z2, Fl.z3]
      refine Fl.take (some 107) (v := .tuple #[.agg #[.int .i64 x1, .int .i64 x2, .int .i64 x3, .int .i64 x4], .bool true]) rfl rfl (Or.inl ⟨by rfl, fun _ _ => by rfl⟩) ?_
      simp only [Act.put, Fl.z1, Fl.z2, Fl.z3]
      refine Fl.take (some 116) (v := .agg #[.int .i64 x1, .int .i64 x2, .int .i64 x3, .int .i64 x4]) rfl rfl (Or.inl ⟨by rfl, fun _ _ => by rfl⟩) ?_
      simp only [Act.put, Fl.z1, Fl.z2, Fl.z3]
      refine Fl.take (some 117) (v := .bool true) rfl rfl (Or.inl ⟨by rfl, fun _ _ => by rfl⟩) ?_
      simp only [Act.put, Fl.z1, Fl.z2, Fl.z3]
      refine Fl.var (N := 19) (cs := #[.int .i64 0, .int .i64 0, .int .i64 0, .int .i64 0]) (t := 54) ⟨_, rfl, rfl, fun _ => rfl, fun e w => by first | (go_simp; done) | (go_simp; rfl)⟩ (fun g19 => ?_)
      simp only [Act.put, Fl.z1, Fl.z2, Fl.z3]
      refine Fl.store 0 #[.int .i64 x1, .int .i64 x2, .int .i64 x3, .int .i64 x4] rfl rfl rfl rfl _ _ _ rfl rfl rfl (by rfl) rfl (by kernel_rfl) (by simp [Value.oneCell']) ?_
      refine Fl.take (some 20) (v := .bool true) rfl rfl (Or.inl ⟨by rfl, fun _ _ => by rfl⟩) ?_
      simp only [Act.put, Fl.z1, Fl.z2, Fl.z3]
      refine Fl.stopW (fun W hi => ?_)
      replace HI := Lib.hid hi
      clear hi
      go_upto_region 16 with (fail)
      refine Fl.startW [.one 0, .one 1, .one 2, .take 3, .take 4, .take 5, .take 6, .take 7] (by decide) HI.out ?_
      refine Fl.ldF (some 119) 4 rfl rfl rfl (by rfl) _ _ rfl rfl Try.underlying32 rfl (by kernel_rfl) ?_
      simp only [Act.put, Fl.z1, Fl.z2, Fl.z3]
      refine Fl.ldF (some 120) 0 rfl rfl rfl (by rfl) _ _ rfl rfl Try.underlying54 rfl (by kernel_rfl) ?_
      simp only [Act.put, Fl.z1, Fl.z2, Fl.z3]
      refine Fl.call (some 121) Try.func34 (by kernel_rfl) rfl #[.agg #[.slice Am m.length cm], .agg #[.int .i64 x1, .int .i64 x2, .int .i64 x3, .int .i64 x4]] rfl rfl rfl (by rfl) rfl (fun E2 W2 hE2 hi => ?_)
      refine (impl_WindowBytes.calls kk Am cm m x1 x2 x3 x4 kr true W2 (hi.cS 5 rfl) (hi.lS 5 rfl) HWB.out).mono ?_
      rintro e W' ⟨v0, rfl, hr, hb⟩
      obtain ⟨A5, c5, rfl⟩ := Kd.R_slice hr
      refine Fl.addR (v := .tuple #[.slice A5 kr.length c5, .bool true]) hi hr hb ?_
      clear hr
      clear hi hb hE2
      simp only [Act.put, Fl.z1, Fl.z2, Fl.z3]
      refine Fl.take (some 118) (v := .tuple #[.slice A5 kr.length c5, .bool true]) rfl rfl (Or.inl ⟨by rfl, fun _ _ => by rfl⟩) ?_
      simp only [Act.put, Fl.z1, Fl.z2, Fl.z3]
      refine Fl.take (some 122) (v := .slice A5 kr.length c5) rfl rfl (Or.inl ⟨by rfl, fun _ _ => by rfl⟩) ?_
      simp only [Act.put, Fl.z1, Fl.z2, Fl.z3]
      refine Fl.take (some 123) (v := .bool true) rfl rfl (Or.inl ⟨by rfl, fun _ _ => by rfl⟩) ?_
      simp only [Act.put, Fl.z1, Fl.z2, Fl.z3]
      refine Fl.take (some 21) (v := .slice A5 kr.length c5) rfl rfl (Or.inl ⟨by rfl, fun _ _ => by rfl⟩) ?_
      simp only [Act.put, Fl.z1, Fl.z2, Fl.z3]
      refine Fl.take (some 22) (v := .bool true) rfl rfl (Or.inl ⟨by rfl, fun _ _ => by rfl⟩) ?_
      simp only [Act.put, Fl.z1, Fl.z2, Fl.z3]
      refine Fl.stopW (fun W hi => ?_)
      replace HI := Lib.hid hi
      clear hi
      have HVB : Hid (laws_vBytes.f kr kr = some true) := Lib.hid (by unfold laws_vBytes.f; simp)
      have HK16 : Hid (kr.length = 16) := HKR
      have HK17 : Hid ((kr.length : Int) = 16) := Lib.hid (by rw [HK16.out]; rfl)
      go_upto_region 17 with (fail)
      refine Fl.startW [.take 0, .take 1, .take 2, .take 3, .take 4, .take 5, .take 6, .take 7, .take 8, .take 9, .take 10, .take 11, .take 12, .take 13, .one 14, .take 15, .take 16] (by decide) HI.out ?_
      refine Fl.take (some 124) (v := .bool true) rfl rfl (Or.inl ⟨by rfl, fun _ _ => by rfl⟩) ?_
      simp only [Act.put, Fl.z1, Fl.z2, Fl.z3]
      refine Fl.take (some 125) (v := .bool false) rfl rfl (Or.inl ⟨by rfl, fun _ _ => by rfl⟩) ?_
      simp only [Act.put, Fl.z1, Fl.z2, Fl.z3]
      refine Fl.take (some 126) (v := .bool false) rfl rfl (Or.inl ⟨by rfl, fun _ _ => by rfl⟩) ?_
      simp only [Act.put, Fl.z1, Fl.z2, Fl.z3]
      refine Fl.take (some 127) (v := .bool true) rfl rfl (Or.inl ⟨by rfl, fun _ _ => by rfl⟩) ?_
      simp only [Act.put, Fl.z1, Fl.z2, Fl.z3]
      refine Fl.take (some 128) (v := .bool false) rfl rfl (Or.inl ⟨by rfl, fun _ _ => by rfl⟩) ?_
      simp only [Act.put, Fl.z1, Fl.z2, Fl.z3]
      refine Fl.take (some 129) (v := .bool false) rfl rfl (Or.inl ⟨by rfl, fun _ _ => by rfl⟩) ?_
      simp only [Act.put, Fl.z1, Fl.z2, Fl.z3]
      refine Fl.take (some 130) (v := .bool false) rfl rfl (Or.inl ⟨by rfl, fun _ _ => by rfl⟩) ?_
      simp only [Act.put, Fl.z1, Fl.z2, Fl.z3]
      refine Fl.take (some 131) (v := .slice A5 kr.length c5) rfl rfl (Or.inl ⟨by rfl, fun _ _ => by rfl⟩) ?_
      simp only [Act.put, Fl.z1, Fl.z2, Fl.z3]
      refine Fl.take (some 132) (v := .int .i64 (kr.length : Int)) rfl rfl (Or.inl ⟨by rfl, fun _ _ => by first | rfl | (go_simp; done) | (go_simp; rfl) | (go_simp; omega)⟩) ?_
      simp only [Act.put, Fl.z1, Fl.z2, Fl.z3]
      refine Fl.take (some 133) (v := .bool false) rfl rfl (Or.inl ⟨by rfl, fun _ _ => by have h_ := HK17.out; first | (go_simp; done) | (go_simp; rfl) | (go_simp; simp [h_]; done) | (go_simp; simp; omega)⟩) ?_
      simp only [Act.put, Fl.z1, Fl.z2, Fl.z3]
      refine Fl.take (some 134) (v := .bool false) rfl rfl (Or.inl ⟨by rfl, fun _ _ => by rfl⟩) ?_
      simp only [Act.put, Fl.z1, Fl.z2, Fl.z3]
      refine Fl.take (some 135) (v := .bool false) rfl rfl (Or.inl ⟨by rfl, fun _ _ => by rfl⟩) ?_
      simp only [Act.put, Fl.z1, Fl.z2, Fl.z3]
      refine Fl.take (some 136) (v := .slice A5 kr.length c5) rfl rfl (Or.inl ⟨by rfl, fun _ _ => by rfl⟩) ?_
      simp only [Act.put, Fl.z1, Fl.z2, Fl.z3]
      refine Fl.take (some 137) (v := .slice (some ⟨g15, 0, none⟩) kr.length 16) rfl rfl (Or.inl ⟨by rfl, fun _ _ => by rw [HK16.out]; first | rfl | (go_simp; done) | (go_simp; rfl)⟩) ?_
      simp only [Act.put, Fl.z1, Fl.z2, Fl.z3]
      refine Fl.call (some 138) Try.func35 (by kernel_rfl) rfl #[.slice A5 kr.length c5, .slice (some ⟨g15, 0, none⟩) kr.length 16] rfl rfl rfl (by rfl) rfl (fun E2 W2 hE2 hi => ?_)
      refine (laws_vBytes.calls A5 c5 kr (some ⟨g15, 0, none⟩) 16 kr true W2 (hi.cR 0 rfl) (hi.lR 0 rfl) (Ky.key_row HK16.out (hi.blk 3 rfl)) (by rw [HK16.out]; exact Nat.le_refl _) HVB.out).mono ?_
      rintro e W' ⟨rfl, hb⟩
      refine Fl.keep (v := .bool true) hi hb.below ?_
      clear hi hb hE2
      simp only [Act.put, Fl.z1, Fl.z2, Fl.z3]
      refine Fl.take (some 139) (v := .bool false) rfl rfl (Or.inl ⟨by rfl, fun _ _ => by rfl⟩) ?_
      simp only [Act.put, Fl.z1, Fl.z2, Fl.z3]
      refine Fl.take (some 140) (v := .bool false) rfl rfl (Or.inl ⟨by rfl, fun _ _ => by rfl⟩) ?_
      simp only [Act.put, Fl.z1, Fl.z2, Fl.z3]
      refine Fl.stopW (fun W hi => ?_)
      replace HI := Lib.hid hi
      clear hi
      cases nk with
      | true =>
        have hng := Ky.next_good HGC.out.1 HGC.out.2 16 (Nat.le_refl _) c HGC.out.1 HGC.out.2 (HNX.out rfl)
        have hnl := Ky.next_less HGC.out.1 (HNX.out rfl)
        have HNL1 : Hid (impl_LessKey.f c nx = some true) := Lib.hid (by unfold impl_LessKey.f; rw [if_pos ⟨HGC.out.2, hng.2⟩, hnl.1])
        have HNL2 : Hid (impl_LessKey.f nx c = some false) := Lib.hid (by unfold impl_LessKey.f; rw [if_pos ⟨hng.2, HGC.out.2⟩, hnl.2])
        clear hng hnl
        go_upto_region 19 with (fail)
        refine Fl.startW [.take 0, .take 1, .one 2, .one 3, .one 4, .take 5, .take 6, .one 7, .one 8, .one 9, .take 10, .take 11] (by decide) HI.out ?_
        refine Fl.take (some 141) (v := .bool true) rfl rfl (Or.inl ⟨by rfl, fun _ _ => by rfl⟩) ?_
        simp only [Act.put, Fl.z1, Fl.z2, Fl.z3]
        refine Fl.take (some 142) (v := .bool true) rfl rfl (Or.inl ⟨by rfl, fun _ _ => by rfl⟩) ?_
        simp only [Act.put, Fl.z1, Fl.z2, Fl.z3]
        refine Fl.ldF (some 143) 10 rfl rfl rfl (by rfl) _ _ rfl rfl Try.underlying26 rfl (Ky.hKk HGC.out.1) ?_
        simp only [Act.put, Fl.z1, Fl.z2, Fl.z3]
        refine Fl.ldF (some 144) 9 rfl rfl rfl (by rfl) _ _ rfl rfl Try.underlying26 rfl (Ky.hKk HKN.out) ?_
        simp only [Act.put, Fl.z1, Fl.z2, Fl.z3]
        refine Fl.call (some 145) Try.func22 (by kernel_rfl) rfl #[.agg (Ky.bs c), .agg (Ky.bs nx)] rfl rfl rfl (by rfl) rfl (fun E2 W2 hE2 hi => ?_)
        refine (impl_LessKey.calls c nx true W2 HGC.out.1 HKN.out HNL1.out).mono ?_
        rintro e W' ⟨rfl, hb⟩
        refine Fl.keep (v := .bool true) hi hb ?_
        clear hi hb hE2
        simp only [Act.put, Fl.z1, Fl.z2, Fl.z3]
        refine Fl.take (some 146) (v := .bool false) rfl rfl (Or.inl ⟨by rfl, fun _ _ => by rfl⟩) ?_
        simp only [Act.put, Fl.z1, Fl.z2, Fl.z3]
        refine Fl.take (some 147) (v := .bool false) rfl rfl (Or.inl ⟨by rfl, fun _ _ => by rfl⟩) ?_
        simp only [Act.put, Fl.z1, Fl.z2, Fl.z3]
        refine Fl.ldF (some 148) 9 rfl rfl rfl (by rfl) _ _ rfl rfl Try.underlying26 rfl (Ky.hKk HKN.out) ?_
        simp only [Act.put, Fl.z1, Fl.z2, Fl.z3]
        refine Fl.ldF (some 149) 10 rfl rfl rfl (by rfl) _ _ rfl rfl Try.underlying26 rfl (Ky.hKk HGC.out.1) ?_
        simp only [Act.put, Fl.z1, Fl.z2, Fl.z3]
        refine Fl.call (some 150) Try.func22 (by kernel_rfl) rfl #[.agg (Ky.bs nx), .agg (Ky.bs c)] rfl rfl rfl (by rfl) rfl (fun E2 W2 hE2 hi => ?_)
        refine (impl_LessKey.calls nx c false W2 HKN.out HGC.out.1 HNL2.out).mono ?_
        rintro e W' ⟨rfl, hb⟩
        refine Fl.keep (v := .bool false) hi hb ?_
        clear hi hb hE2
        simp only [Act.put, Fl.z1, Fl.z2, Fl.z3]
        refine Fl.take (some 151) (v := .bool false) rfl rfl (Or.inl ⟨by rfl, fun _ _ => by rfl⟩) ?_
        simp only [Act.put, Fl.z1, Fl.z2, Fl.z3]
        refine Fl.take (some 152) (v := .bool false) rfl rfl (Or.inl ⟨by rfl, fun _ _ => by rfl⟩) ?_
        simp only [Act.put, Fl.z1, Fl.z2, Fl.z3]
        refine Fl.stopW (fun W hi => ?_)
        replace HI := Lib.hid hi
        clear hi
        go_upto_region 21 with (fail)
        refine Fl.startW [.one 0, .one 1, .one 2, .take 3] (by decide) HI.out ?_
        refine Fl.ldF (some 153) 12 rfl rfl rfl (by rfl) _ _ rfl rfl Try.underlying26 rfl (Ky.hKk HGB.out.1) ?_
        simp only [Act.put, Fl.z1, Fl.z2, Fl.z3]
        refine Fl.ldF (some 154) 13 rfl rfl rfl (by rfl) _ _ rfl rfl Try.underlying26 rfl (Ky.hKk HGA.out.1) ?_
        simp only [Act.put, Fl.z1, Fl.z2, Fl.z3]
        refine Fl.call (some 155) Try.func22 (by kernel_rfl) rfl #[.agg (Ky.bs b), .agg (Ky.bs a)] rfl rfl rfl (by rfl) rfl (fun E2 W2 hE2 hi => ?_)
        refine (impl_LessKey.calls b a bk W2 HGB.out.1 HGA.out.1 HLB.out).mono ?_
        rintro e W' ⟨rfl, hb⟩
        refine Fl.keep (v := .bool bk) hi hb ?_
        clear hi hb hE2
        simp only [Act.put, Fl.z1, Fl.z2, Fl.z3]
        refine Fl.take (some 23) (v := .bool bk) rfl rfl (Or.inl ⟨by rfl, fun _ _ => by rfl⟩) ?_
        simp only [Act.put, Fl.z1, Fl.z2, Fl.z3]
        refine Fl.stopW (fun W hi => ?_)
        replace HI := Lib.hid hi
        clear hi
        by_cases hab : a = b
        · have HD : Hid (decide (a = b) = true) := Lib.hid (decide_eq_true hab)
          obtain rfl : ls = false := by rw [HEL.out, hab]; exact Ky.less_self b
          obtain rfl : bk = false := by rw [HEB.out, hab]; exact Ky.less_self b
          obtain rfl : cb = 128 := by rw [HEC.out, hab, Ky.common_self, show b.length = 16 from HGB.out.1]
          clear hab
          go_upto_region 22 with (fail)
          refine Fl.startW [.one 0, .one 1, .take 2, .take 3, .take 4, .take 5, .take 6, .one 7, .one 8, .take 9, .take 10, .take 11, .take 12, .take 13, .take 14, .take 15, .take 16, .take 17, .take 18, .take 19, .take 20, .take 21, .take 22, .one 23, .one 24, .one 25, .take 26, .take 27, .take 28] (by decide) HI.out ?_
          refine Fl.ldF (some 156) 13 rfl rfl rfl (by rfl) _ _ rfl rfl Try.underlying26 rfl (Ky.hKk HGA.out.1) ?_
          simp only [Act.put, Fl.z1, Fl.z2, Fl.z3]
          refine Fl.ldF (some 157) 12 rfl rfl rfl (by rfl) _ _ rfl rfl Try.underlying26 rfl (Ky.hKk HGB.out.1) ?_
          simp only [Act.put, Fl.z1, Fl.z2, Fl.z3]
          refine Fl.take (some 158) (v := .bool true) rfl rfl (Ky.yields_eqKeyB HD.out HGA.out.1 HGB.out.1 (by rfl) _ _ _ rfl rfl rfl) ?_
          simp only [Act.put, Fl.z1, Fl.z2, Fl.z3]
          refine Fl.take (some 159) (v := .int .i64 ((128 : Nat) : Int)) rfl rfl (Or.inl ⟨by rfl, fun _ _ => by rfl⟩) ?_
          simp only [Act.put, Fl.z1, Fl.z2, Fl.z3]
          refine Fl.take (some 160) (v := .bool true) rfl rfl (Or.inl ⟨by rfl, fun _ _ => by first | rfl | (go_simp; done) | (go_simp; rfl)⟩) ?_
          simp only [Act.put, Fl.z1, Fl.z2, Fl.z3]
          refine Fl.take (some 161) (v := .bool false) rfl rfl (Or.inl ⟨by rfl, fun _ _ => by first | rfl | (go_simp; done) | (go_simp; rfl) | (go_simp; simp)⟩) ?_
          simp only [Act.put, Fl.z1, Fl.z2, Fl.z3]
          refine Fl.take (some 162) (v := .bool false) rfl rfl (Or.inl ⟨by rfl, fun _ _ => by rfl⟩) ?_
          simp only [Act.put, Fl.z1, Fl.z2, Fl.z3]
          refine Fl.ldF (some 163) 13 rfl rfl rfl (by rfl) _ _ rfl rfl Try.underlying26 rfl (Ky.hKk HGA.out.1) ?_
          simp only [Act.put, Fl.z1, Fl.z2, Fl.z3]
          refine Fl.ldF (some 164) 12 rfl rfl rfl (by rfl) _ _ rfl rfl Try.underlying26 rfl (Ky.hKk HGB.out.1) ?_
          simp only [Act.put, Fl.z1, Fl.z2, Fl.z3]
          refine Fl.take (some 165) (v := .bool true) rfl rfl (Ky.yields_eqKeyB HD.out HGA.out.1 HGB.out.1 (by rfl) _ _ _ rfl rfl rfl) ?_
          simp only [Act.put, Fl.z1, Fl.z2, Fl.z3]
          refine Fl.take (some 166) (v := .bool false) rfl rfl (Or.inl ⟨by rfl, fun _ _ => by rfl⟩) ?_
          simp only [Act.put, Fl.z1, Fl.z2, Fl.z3]
          refine Fl.take (some 167) (v := .bool false) rfl rfl (Or.inl ⟨by rfl, fun _ _ => by rfl⟩) ?_
          simp only [Act.put, Fl.z1, Fl.z2, Fl.z3]
          refine Fl.take (some 168) (v := .bool false) rfl rfl (Or.inl ⟨by rfl, fun _ _ => by rfl⟩) ?_
          simp only [Act.put, Fl.z1, Fl.z2, Fl.z3]
          refine Fl.take (some 169) (v := .bool false) rfl rfl (Or.inl ⟨by rfl, fun _ _ => by rfl⟩) ?_
          simp only [Act.put, Fl.z1, Fl.z2, Fl.z3]
          refine Fl.take (some 170) (v := .bool false) rfl rfl (Or.inl ⟨by rfl, fun _ _ => by first | rfl | (go_simp; done) | (go_simp; rfl) | (go_simp; simp)⟩) ?_
          simp only [Act.put, Fl.z1, Fl.z2, Fl.z3]
          refine Fl.take (some 171) (v := .bool false) rfl rfl (Or.inl ⟨by rfl, fun _ _ => by rfl⟩) ?_
          simp only [Act.put, Fl.z1, Fl.z2, Fl.z3]
          refine Fl.take (some 172) (v := .bool false) rfl rfl (Or.inl ⟨by rfl, fun _ _ => by rfl⟩) ?_
          simp only [Act.put, Fl.z1, Fl.z2, Fl.z3]
          refine Fl.take (some 173) (v := .bool false) rfl rfl (Or.inl ⟨by rfl, fun _ _ => by rfl⟩) ?_
          simp only [Act.put, Fl.z1, Fl.z2, Fl.z3]
          refine Fl.take (some 174) (v := .bool false) rfl rfl (Or.inl ⟨by rfl, fun _ _ => by rfl⟩) ?_
          simp only [Act.put, Fl.z1, Fl.z2, Fl.z3]
          refine Fl.take (some 175) (v := undef) rfl rfl (Or.inr ⟨by rfl, rfl⟩) ?_
          simp only [Act.put, Fl.z1, Fl.z2, Fl.z3]
          refine Fl.take (some 176) (v := .bool false) rfl rfl (Or.inl ⟨by rfl, fun _ _ => by rfl⟩) ?_
          simp only [Act.put, Fl.z1, Fl.z2, Fl.z3]
          refine Fl.take (some 177) (v := .bool false) rfl rfl (Or.inl ⟨by rfl, fun _ _ => by rfl⟩) ?_
          simp only [Act.put, Fl.z1, Fl.z2, Fl.z3]
          refine Fl.take (some 178) (v := .bool false) rfl rfl (Or.inl ⟨by rfl, fun _ _ => by rfl⟩) ?_
          simp only [Act.put, Fl.z1, Fl.z2, Fl.z3]
          refine Fl.ldF (some 179) 12 rfl rfl rfl (by rfl) _ _ rfl rfl Try.underlying26 rfl (Ky.hKk HGB.out.1) ?_
          simp only [Act.put, Fl.z1, Fl.z2, Fl.z3]
          refine Fl.ldF (some 180) 13 rfl rfl rfl (by rfl) _ _ rfl rfl Try.underlying26 rfl (Ky.hKk HGA.out.1) ?_
          simp only [Act.put, Fl.z1, Fl.z2, Fl.z3]
          refine Fl.call (some 181) Try.func23 (by kernel_rfl) rfl #[.agg (Ky.bs b), .agg (Ky.bs a)] rfl rfl rfl (by rfl) rfl (fun E2 W2 hE2 hi => ?_)
          refine (impl_CommonBits.calls b a ((128 : Nat) : Int) W2 HGB.out.1 HGA.out.1 HCB.out).mono ?_
          rintro e W' ⟨rfl, hb⟩
          refine Fl.keep (v := .int .i64 ((128 : Nat) : Int)) hi hb ?_
          clear hi hb hE2
          simp only [Act.put, Fl.z1, Fl.z2, Fl.z3]
          refine Fl.take (some 182) (v := .int .i64 ((128 : Nat) : Int)) rfl rfl (Or.inl ⟨by rfl, fun _ _ => by rfl⟩) ?_
          simp only [Act.put, Fl.z1, Fl.z2, Fl.z3]
          refine Fl.take (some 183) (v := .bool false) rfl rfl (Or.inl ⟨by rfl, fun _ _ => by first | rfl | (go_simp; done) | (go_simp; rfl) | (go_simp; simp)⟩) ?_
          simp only [Act.put, Fl.z1, Fl.z2, Fl.z3]
          refine Fl.take (some 184) (v := .bool false) rfl rfl (Or.inl ⟨by rfl, fun _ _ => by rfl⟩) ?_
          simp only [Act.put, Fl.z1, Fl.z2, Fl.z3]
          refine Fl.stopW (fun W hi => ?_)
          replace HI := Lib.hid hi
          clear hi
          go_upto_region 24 with (fail)
          refine Fl.startW [.one 0, .one 1, .take 2] (by decide) HI.out ?_
          refine Fl.ldF (some 185) 13 rfl rfl rfl (by rfl) _ _ rfl rfl Try.underlying26 rfl (Ky.hKk HGA.out.1) ?_
          simp only [Act.put, Fl.z1, Fl.z2, Fl.z3]
          refine Fl.ldF (some 186) 12 rfl rfl rfl (by rfl) _ _ rfl rfl Try.underlying26 rfl (Ky.hKk HGB.out.1) ?_
          simp only [Act.put, Fl.z1, Fl.z2, Fl.z3]
          refine Fl.take (some 187) (v := .bool true) rfl rfl (Ky.yields_eqKeyB HD.out HGA.out.1 HGB.out.1 (by rfl) _ _ _ rfl rfl rfl) ?_
          simp only [Act.put, Fl.z1, Fl.z2, Fl.z3]
          refine Fl.stopW (fun W hi => ?_)
          replace HI := Lib.hid hi
          clear hi
          go_wp2
          go_ret
          exact ⟨rfl, HI.out.bel⟩
        · have HD : Hid (decide (a = b) = false) := Lib.hid (decide_eq_false hab)
          obtain ⟨n, c_, x, y, hn, hc8, hx, hy, hal, hcm, hd, hlz, hlb⟩ := Ky.keys_ne HGA.out.1 HGB.out.1 HGA.out.2 HGB.out.2 hab
          rw [← HEC.out] at hcm
          obtain rfl : bk = !ls := by rw [HEB.out, HEL.out]; exact hlb
          rw [← HEL.out] at hlz
          have HNE : Hid (¬ (cb : Int) = 128) := Lib.hid (by omega)
          have HC8 := Lib.hid hc8
          have HNN := Lib.hid hn
          have HX := Lib.hid hx
          have HY := Lib.hid hy
          have HAL := Lib.hid hal
          have HDX := Lib.hid hd
          have HLZ := Lib.hid hlz
          have HQ1 : Hid (IntKind.i64.wrap (Int.tdiv (cb : Int) 8) = (n : Int)) := Lib.hid (by rw [IntKind.wrap_i64, Int.tdiv_eq_ediv_of_nonneg (by omega)]; omega)
          have HQ2 : Hid (Int.tmod (cb : Int) 8 = ((7 - c_ : Nat) : Int)) := Lib.hid (by rw [Int.tmod_eq_emod_of_nonneg (by omega)]; omega)
          clear hab hn hc8 hx hy hal hd hlz hlb hcm
          go_upto_region 22 with (fail)
          refine Fl.startW [.one 0, .one 1, .take 2, .take 3, .take 4, .take 5, .take 6, .one 7, .one 8, .take 9, .take 10, .take 11, .take 12, .take 13, .take 14, .take 15, .take 16, .take 17, .take 18, .take 19, .take 20, .take 21, .take 22, .one 23, .one 24, .one 25, .take 26, .take 27, .take 28] (by decide) HI.out ?_
          refine Fl.ldF (some 156) 13 rfl rfl rfl (by rfl) _ _ rfl rfl Try.underlying26 rfl (Ky.hKk HGA.out.1) ?_
          simp only [Act.put, Fl.z1, Fl.z2, Fl.z3]
          refine Fl.ldF (some 157) 12 rfl rfl rfl (by rfl) _ _ rfl rfl Try.underlying26 rfl (Ky.hKk HGB.out.1) ?_
          simp only [Act.put, Fl.z1, Fl.z2, Fl.z3]
          refine Fl.take (some 158) (v := .bool false) rfl rfl (Ky.yields_eqKeyB HD.out HGA.out.1 HGB.out.1 (by rfl) _ _ _ rfl rfl rfl) ?_
          simp only [Act.put, Fl.z1, Fl.z2, Fl.z3]
          refine Fl.take (some 159) (v := .int .i64 (cb : Int)) rfl rfl (Or.inl ⟨by rfl, fun _ _ => by rfl⟩) ?_
          simp only [Act.put, Fl.z1, Fl.z2, Fl.z3]
          refine Fl.take (some 160) (v := .bool false) rfl rfl (Or.inl ⟨by rfl, fun _ _ => by have h_ := eq_false HNE.out; first | (go_simp; done) | (go_simp; rfl) | (go_simp; simp [h_]; done) | (go_simp; simp; omega)⟩) ?_
          simp only [Act.put, Fl.z1, Fl.z2, Fl.z3]
          refine Fl.take (some 161) (v := .bool false) rfl rfl (Or.inl ⟨by rfl, fun _ _ => by first | rfl | (go_simp; done) | (go_simp; rfl) | (go_simp; simp)⟩) ?_
          simp only [Act.put, Fl.z1, Fl.z2, Fl.z3]
          refine Fl.take (some 162) (v := .bool false) rfl rfl (Or.inl ⟨by rfl, fun _ _ => by rfl⟩) ?_
          simp only [Act.put, Fl.z1, Fl.z2, Fl.z3]
          refine Fl.ldF (some 163) 13 rfl rfl rfl (by rfl) _ _ rfl rfl Try.underlying26 rfl (Ky.hKk HGA.out.1) ?_
          simp only [Act.put, Fl.z1, Fl.z2, Fl.z3]
          refine Fl.ldF (some 164) 12 rfl rfl rfl (by rfl) _ _ rfl rfl Try.underlying26 rfl (Ky.hKk HGB.out.1) ?_
          simp only [Act.put, Fl.z1, Fl.z2, Fl.z3]
          refine Fl.take (some 165) (v := .bool false) rfl rfl (Ky.yields_eqKeyB HD.out HGA.out.1 HGB.out.1 (by rfl) _ _ _ rfl rfl rfl) ?_
          simp only [Act.put, Fl.z1, Fl.z2, Fl.z3]
          refine Fl.take (some 166) (v := .bool ls) rfl rfl (Or.inl ⟨by rfl, fun _ _ => by rfl⟩) ?_
          simp only [Act.put, Fl.z1, Fl.z2, Fl.z3]
          refine Fl.take (some 167) (v := .bool ls) rfl rfl (Or.inl ⟨by rfl, fun _ _ => by rfl⟩) ?_
          simp only [Act.put, Fl.z1, Fl.z2, Fl.z3]
          refine Fl.take (some 168) (v := (cond ls undef (.bool (!ls)))) rfl rfl (by cases ls <;> first | exact Or.inr ⟨by rfl, by rfl⟩ | exact Or.inl ⟨by rfl, fun _ _ => by first | rfl | (go_simp; done) | (go_simp; rfl)⟩) ?_
          simp only [Act.put, Fl.z1, Fl.z2, Fl.z3]
          refine Fl.take (some 169) (v := .bool true) rfl rfl (by cases ls <;> first | exact Or.inr ⟨by rfl, by rfl⟩ | exact Or.inl ⟨by rfl, fun _ _ => by first | rfl | (go_simp; done) | (go_simp; rfl)⟩) ?_
          simp only [Act.put, Fl.z1, Fl.z2, Fl.z3]
          refine Fl.take (some 170) (v := .bool false) rfl rfl (Or.inl ⟨by rfl, fun _ _ => by first | rfl | (go_simp; done) | (go_simp; rfl) | (go_simp; simp)⟩) ?_
          simp only [Act.put, Fl.z1, Fl.z2, Fl.z3]
          refine Fl.take (some 171) (v := .bool false) rfl rfl (Or.inl ⟨by rfl, fun _ _ => by rfl⟩) ?_
          simp only [Act.put, Fl.z1, Fl.z2, Fl.z3]
          refine Fl.take (some 172) (v := .bool false) rfl rfl (Or.inl ⟨by rfl, fun _ _ => by rfl⟩) ?_
          simp only [Act.put, Fl.z1, Fl.z2, Fl.z3]
          refine Fl.take (some 173) (v := .bool ls) rfl rfl (Or.inl ⟨by rfl, fun _ _ => by rfl⟩) ?_
          simp only [Act.put, Fl.z1, Fl.z2, Fl.z3]
          refine Fl.take (some 174) (v := .bool ls) rfl rfl (Or.inl ⟨by rfl, fun _ _ => by rfl⟩) ?_
          simp only [Act.put, Fl.z1, Fl.z2, Fl.z3]
          refine Fl.take (some 175) (v := (cond ls (.bool (!ls)) undef)) rfl rfl (by cases ls <;> first | exact Or.inr ⟨by rfl, by rfl⟩ | exact Or.inl ⟨by rfl, fun _ _ => by first | rfl | (go_simp; done) | (go_simp; rfl)⟩) ?_
          simp only [Act.put, Fl.z1, Fl.z2, Fl.z3]
          refine Fl.take (some 176) (v := .bool false) rfl rfl (by cases ls <;> first | exact Or.inr ⟨by rfl, by rfl⟩ | exact Or.inl ⟨by rfl, fun _ _ => by first | rfl | (go_simp; done) | (go_simp; rfl)⟩) ?_
          simp only [Act.put, Fl.z1, Fl.z2, Fl.z3]
          refine Fl.take (some 177) (v := .bool false) rfl rfl (Or.inl ⟨by rfl, fun _ _ => by rfl⟩) ?_
          simp only [Act.put, Fl.z1, Fl.z2, Fl.z3]
          refine Fl.take (some 178) (v := .bool false) rfl rfl (Or.inl ⟨by rfl, fun _ _ => by rfl⟩) ?_
          simp only [Act.put, Fl.z1, Fl.z2, Fl.z3]
          refine Fl.ldF (some 179) 12 rfl rfl rfl (by rfl) _ _ rfl rfl Try.underlying26 rfl (Ky.hKk HGB.out.1) ?_
          simp only [Act.put, Fl.z1, Fl.z2, Fl.z3]
          refine Fl.ldF (some 180) 13 rfl rfl rfl (by rfl) _ _ rfl rfl Try.underlying26 rfl (Ky.hKk HGA.out.1) ?_
          simp only [Act.put, Fl.z1, Fl.z2, Fl.z3]
          refine Fl.call (some 181) Try.func23 (by kernel_rfl) rfl #[.agg (Ky.bs b), .agg (Ky.bs a)] rfl rfl rfl (by rfl) rfl (fun E2 W2 hE2 hi => ?_)
          refine (impl_CommonBits.calls b a (cb : Int) W2 HGB.out.1 HGA.out.1 HCB.out).mono ?_
          rintro e W' ⟨rfl, hb⟩
          refine Fl.keep (v := .int .i64 (cb : Int)) hi hb ?_
          clear hi hb hE2
          simp only [Act.put, Fl.z1, Fl.z2, Fl.z3]
          refine Fl.take (some 182) (v := .int .i64 (cb : Int)) rfl rfl (Or.inl ⟨by rfl, fun _ _ => by rfl⟩) ?_
          simp only [Act.put, Fl.z1, Fl.z2, Fl.z3]
          refine Fl.take (some 183) (v := .bool false) rfl rfl (Or.inl ⟨by rfl, fun _ _ => by first | rfl | (go_simp; done) | (go_simp; rfl) | (go_simp; simp)⟩) ?_
          simp only [Act.put, Fl.z1, Fl.z2, Fl.z3]
          refine Fl.take (some 184) (v := .bool false) rfl rfl (Or.inl ⟨by rfl, fun _ _ => by rfl⟩) ?_
          simp only [Act.put, Fl.z1, Fl.z2, Fl.z3]
          refine Fl.stopW (fun W hi => ?_)
          replace HI := Lib.hid hi
          clear hi
          go_upto_region 24 with (fail)
          refine Fl.startW [.one 0, .one 1, .take 2] (by decide) HI.out ?_
          refine Fl.ldF (some 185) 13 rfl rfl rfl (by rfl) _ _ rfl rfl Try.underlying26 rfl (Ky.hKk HGA.out.1) ?_
          simp only [Act.put, Fl.z1, Fl.z2, Fl.z3]
          refine Fl.ldF (some 186) 12 rfl rfl rfl (by rfl) _ _ rfl rfl Try.underlying26 rfl (Ky.hKk HGB.out.1) ?_
          simp only [Act.put, Fl.z1, Fl.z2, Fl.z3]
          refine Fl.take (some 187) (v := .bool false) rfl rfl (Ky.yields_eqKeyB HD.out HGA.out.1 HGB.out.1 (by rfl) _ _ _ rfl rfl rfl) ?_
          simp only [Act.put, Fl.z1, Fl.z2, Fl.z3]
          refine Fl.stopW (fun W hi => ?_)
          replace HI := Lib.hid hi
          clear hi
          go_upto_region 26 with (fail)
          refine Fl.startW [.take 0, .take 1, .take 2] (by decide) HI.out ?_
          refine Fl.take (some 188) (v := .int .i64 (cb : Int)) rfl rfl (Or.inl ⟨by rfl, fun _ _ => by rfl⟩) ?_
          simp only [Act.put, Fl.z1, Fl.z2, Fl.z3]
          refine Fl.take (some 189) (v := .int .i64 (n : Int)) rfl rfl (Fz.yields_quo (by rfl) _ _ _ _ rfl (cb : Int) 8 (n : Int) rfl rfl (by decide) HQ1.out) ?_
          simp only [Act.put, Fl.z1, Fl.z2, Fl.z3]
          refine Fl.take (some 24) (v := .int .i64 (n : Int)) rfl rfl (Or.inl ⟨by rfl, fun _ _ => by rfl⟩) ?_
          simp only [Act.put, Fl.z1, Fl.z2, Fl.z3]
          refine Fl.stopW (fun W hi => ?_)
          replace HI := Lib.hid hi
          clear hi
          go_upto_region 27 with (fail)
          refine Fl.startW [.take 0, .take 1, .take 2, .take 3] (by decide) HI.out ?_
          refine Fl.take (some 190) (v := .int .i64 (cb : Int)) rfl rfl (Or.inl ⟨by rfl, fun _ _ => by rfl⟩) ?_
          simp only [Act.put, Fl.z1, Fl.z2, Fl.z3]
          refine Fl.take (some 191) (v := .int .i64 ((7 - c_ : Nat) : Int)) rfl rfl (Fz.yields_rem (by rfl) _ _ _ _ rfl (cb : Int) 8 ((7 - c_ : Nat) : Int) rfl rfl (by decide) HQ2.out) ?_
          simp only [Act.put, Fl.z1, Fl.z2, Fl.z3]
          refine Fl.take (some 192) (v := .int .u8 ((2 ^ c_ : Nat) : Int)) rfl rfl (Ky.yields_shr HC8.out (by rfl) _ _ _ _ rfl rfl rfl) ?_
          simp only [Act.put, Fl.z1, Fl.z2, Fl.z3]
          refine Fl.take (some 25) (v := .int .u8 ((2 ^ c_ : Nat) : Int)) rfl rfl (Or.inl ⟨by rfl, fun _ _ => by rfl⟩) ?_
          simp only [Act.put, Fl.z1, Fl.z2, Fl.z3]
          refine Fl.stopW (fun W hi => ?_)
          replace HI := Lib.hid hi
          clear hi
          obtain ⟨mk, hmk⟩ : ∃ x, x = ((2 ^ c_ : Nat) : Int) := ⟨_, rfl⟩
          rw [← hmk] at HDX HLZ
          rw [← hmk]
          clear hmk HC8
          replace HI : Hid (Lv.Inv w W [Lv.boxF g3 (Ky.bs a) 26, Lv.boxF g4 (Ky.bs b) 26]) := Lib.hid (Fl.inv_sel HI.out [13, 12] (by decide))
          go_wp2
          go_loopg [26] n (fun gg s26 wr => ∃ k : Nat, s26 = .int .i64 (k : Int) ∧ Hid (k ≤ n ∧ n - k ≤ gg) ∧ Hid (Lv.Inv w wr [Lv.boxF g3 (Ky.bs a) 26, Lv.boxF g4 (Ky.bs b) 26]))
          case atStart => exact ⟨0, rfl, Lib.hid (by simp), HI⟩
          case round =>
            clear HI
            obtain ⟨k, rfl, HK, HI⟩ := hrel
            by_cases hlt : k < n
            · have k0 : (0 : Int) ≤ (k : Int) := by omega
              have k1 : (k : Int) < (n : Int) := by omega
              have k2 : (k : Int) < 16 := by have := HNN.out; omega
              obtain ⟨z, hz⟩ : ∃ z, a[k]? = some z := ⟨_, List.getElem?_eq_getElem (by rw [show a.length = 16 from HGA.out.1]; omega)⟩
              have HZA := Lib.hid hz
              have HZB : Hid (b[k]? = some z) := Lib.hid (by rw [← HAL.out k hlt]; exact hz)
              clear hz
              go_upto_region 31 with (fail)
              refine Fl.start [([],[]),([0],[0]),([1],[1]),([],[]),([3],[3]),([4],[4]),([2,5],[2,5])] [] 8 [.take 0, .take 1, .take 2, .take 3, .take 4, .take 5, .take 6] [] (by kernel_rfl) (by kernel_rfl) (by decide) (by decide) (by kernel_rfl) (by kernel_rfl) Fl.mk0 HI.out ?_
              refine Fl.take (some 198) (v := .int .i64 (k : Int)) rfl rfl (Or.inl ⟨by rfl, fun _ _ => by rfl⟩) ?_
              simp only [Act.put, Fl.z1, Fl.z2, Fl.z3]
              refine Fl.take (some 199) (v := .pointer (some ⟨g3, k, none⟩)) rfl rfl (Or.inl ⟨by rfl, fun _ _ => by first | rfl | (go_simp; done) | (go_simp; rfl) | (go_simp; omega)⟩) ?_
              simp only [Act.put, Fl.z1, Fl.z2, Fl.z3]
              refine Fl.take (some 200) (v := .int .u8 z) rfl rfl (Fl.ldc 0 k rfl (by rfl) _ _ rfl rfl (Ky.bs_get HZA.out) Try.underlying5 rfl) ?_
              simp only [Act.put, Fl.z1, Fl.z2, Fl.z3]
              refine Fl.take (some 201) (v := .int .i64 (k : Int)) rfl rfl (Or.inl ⟨by rfl, fun _ _ => by rfl⟩) ?_
              simp only [Act.put, Fl.z1, Fl.z2, Fl.z3]
              refine Fl.take (some 202) (v := .pointer (some ⟨g4, k, none⟩)) rfl rfl (Or.inl ⟨by rfl, fun _ _ => by first | rfl | (go_simp; done) | (go_simp; rfl) | (go_simp; omega)⟩) ?_
              simp only [Act.put, Fl.z1, Fl.z2, Fl.z3]
              refine Fl.take (some 203) (v := .int .u8 z) rfl rfl (Fl.ldc 1 k rfl (by rfl) _ _ rfl rfl (Ky.bs_get HZB.out) Try.underlying5 rfl) ?_
              simp only [Act.put, Fl.z1, Fl.z2, Fl.z3]
              refine Fl.take (some 204) (v := .bool false) rfl rfl (Or.inl ⟨by rfl, fun _ _ => by first | rfl | (go_simp; done) | (go_simp; rfl) | (go_simp; simp)⟩) ?_
              simp only [Act.put, Fl.z1, Fl.z2, Fl.z3]
              refine Fl.fin0 ?_
              refine Fl.stopN (fun W hi => ?_)
              replace HI := Lib.hid hi
              clear hi
              go_wp2
              go_roundg (n - (k + 1))
              case measure => have := HK.out; omega
              case rel => exact ⟨k + 1, by go_num, Lib.hid (by have := HK.out; omega), HI⟩
            · obtain rfl : k = n := by have := HK.out; omega
              have k1 : ¬ (k : Int) < (k : Int) := by omega
              have k0 : (0 : Int) ≤ (k : Int) := by omega
              have k2 : (k : Int) < 16 := by have := HNN.out; omega
              obtain ⟨px, hpx⟩ : ∃ v, v = Go.bits .and .u8 x mk := ⟨_, rfl⟩
              obtain ⟨py, hpy⟩ : ∃ v, v = Go.bits .and .u8 y mk := ⟨_, rfl⟩
              rw [← hpx, ← hpy] at HDX
              rw [← hpx] at HLZ
              have HPX := Lib.hid hpx.symm
              have HPY := Lib.hid hpy.symm
              clear hpx hpy
              go_upto_region 33 with (fail)
              refine Fl.start [([],[]),([0],[0]),([1],[1]),([],[]),([2,3],[2,3]),([],[]),([5],[5]),([6],[6]),([],[]),([7,8],[7,8]),([4,9],[4,9]),([10],[10]),([11],[11]),([11],[11]),([13,11],[11,13]),([14,11],[11,14]),([11],[11]),([15,16,11],[11,15,16]),([17,11],[11,17]),([12,18,11],[11,12,18]),([11,19],[11,19]),([20,11,0,1,2,3,4,5,6,7,8,9,10,11,12,13,14,15,16,17,18,19,20],[20])] [] 23 [.take 0, .take 1, .take 2, .take 3, .take 4, .take 5, .take 6, .take 7, .take 8, .take 9, .take 10, .take 11, .take 12, .take 13, .take 14, .take 15, .take 16, .take 17, .take 18, .take 19, .take 20, .take 21] [] (by kernel_rfl) (by kernel_rfl) (by decide) (by decide) (by kernel_rfl) (by kernel_rfl) Fl.mk0 HI.out ?_
              refine Fl.take (some 205) (v := .int .i64 (k : Int)) rfl rfl (Or.inl ⟨by rfl, fun _ _ => by rfl⟩) ?_
              simp only [Act.put, Fl.z1, Fl.z2, Fl.z3]
              refine Fl.take (some 206) (v := .pointer (some ⟨g3, k, none⟩)) rfl rfl (Or.inl ⟨by rfl, fun _ _ => by first | rfl | (go_simp; done) | (go_simp; rfl) | (go_simp; omega)⟩) ?_
              simp only [Act.put, Fl.z1, Fl.z2, Fl.z3]
              refine Fl.take (some 207) (v := .int .u8 x) rfl rfl (Fl.ldc 0 k rfl (by rfl) _ _ rfl rfl (Ky.bs_get HX.out) Try.underlying5 rfl) ?_
              simp only [Act.put, Fl.z1, Fl.z2, Fl.z3]
              refine Fl.take (some 208) (v := .int .u8 mk) rfl rfl (Or.inl ⟨by rfl, fun _ _ => by rfl⟩) ?_
              simp only [Act.put, Fl.z1, Fl.z2, Fl.z3]
              refine Fl.take (some 209) (v := .int .u8 px) rfl rfl (Or.inl ⟨by rfl, fun _ _ => by have h_ := HPX.out; first | (go_simp; done) | (go_simp; rw [h_]; done) | (go_simp; simp only [h_]; done) | (go_simp; rw [h_]; rfl)⟩) ?_
              simp only [Act.put, Fl.z1, Fl.z2, Fl.z3]
              refine Fl.take (some 210) (v := .int .i64 (k : Int)) rfl rfl (Or.inl ⟨by rfl, fun _ _ => by rfl⟩) ?_
              simp only [Act.put, Fl.z1, Fl.z2, Fl.z3]
              refine Fl.take (some 211) (v := .pointer (some ⟨g4, k, none⟩)) rfl rfl (Or.inl ⟨by rfl, fun _ _ => by first | rfl | (go_simp; done) | (go_simp; rfl) | (go_simp; omega)⟩) ?_
              simp only [Act.put, Fl.z1, Fl.z2, Fl.z3]
              refine Fl.take (some 212) (v := .int .u8 y) rfl rfl (Fl.ldc 1 k rfl (by rfl) _ _ rfl rfl (Ky.bs_get HY.out) Try.underlying5 rfl) ?_
              simp only [Act.put, Fl.z1, Fl.z2, Fl.z3]
              refine Fl.take (some 213) (v := .int .u8 mk) rfl rfl (Or.inl ⟨by rfl, fun _ _ => by rfl⟩) ?_
              simp only [Act.put, Fl.z1, Fl.z2, Fl.z3]
              refine Fl.take (some 214) (v := .int .u8 py) rfl rfl (Or.inl ⟨by rfl, fun _ _ => by have h_ := HPY.out; first | (go_simp; done) | (go_simp; rw [h_]; done) | (go_simp; simp only [h_]; done) | (go_simp; rw [h_]; rfl)⟩) ?_
              simp only [Act.put, Fl.z1, Fl.z2, Fl.z3]
              refine Fl.take (some 215) (v := .bool true) rfl rfl (Or.inl ⟨by rfl, fun _ _ => by have h_ := eq_false HDX.out; first | (go_simp; done) | (go_simp; rfl) | (go_simp; simp [h_]; done) | (go_simp; simp; omega)⟩) ?_
              simp only [Act.put, Fl.z1, Fl.z2, Fl.z3]
              refine Fl.take (some 216) (v := .bool true) rfl rfl (Or.inl ⟨by rfl, fun _ _ => by rfl⟩) ?_
              simp only [Act.put, Fl.z1, Fl.z2, Fl.z3]
              refine Fl.take (some 217) (v := .bool ls) rfl rfl (Or.inl ⟨by rfl, fun _ _ => by rfl⟩) ?_
              simp only [Act.put, Fl.z1, Fl.z2, Fl.z3]
              refine Fl.take (some 218) (v := .int .i64 (k : Int)) rfl rfl (Or.inl ⟨by rfl, fun _ _ => by rfl⟩) ?_
              simp only [Act.put, Fl.z1, Fl.z2, Fl.z3]
              refine Fl.take (some 219) (v := .pointer (some ⟨g3, k, none⟩)) rfl rfl (Or.inl ⟨by rfl, fun _ _ => by first | rfl | (go_simp; done) | (go_simp; rfl) | (go_simp; omega)⟩) ?_
              simp only [Act.put, Fl.z1, Fl.z2, Fl.z3]
              refine Fl.take (some 220) (v := .int .u8 x) rfl rfl (Fl.ldc 0 k rfl (by rfl) _ _ rfl rfl (Ky.bs_get HX.out) Try.underlying5 rfl) ?_
              simp only [Act.put, Fl.z1, Fl.z2, Fl.z3]
              refine Fl.take (some 221) (v := .int .u8 mk) rfl rfl (Or.inl ⟨by rfl, fun _ _ => by rfl⟩) ?_
              simp only [Act.put, Fl.z1, Fl.z2, Fl.z3]
              refine Fl.take (some 222) (v := .int .u8 px) rfl rfl (Or.inl ⟨by rfl, fun _ _ => by have h_ := HPX.out; first | (go_simp; done) | (go_simp; rw [h_]; done) | (go_simp; simp only [h_]; done) | (go_simp; rw [h_]; rfl)⟩) ?_
              simp only [Act.put, Fl.z1, Fl.z2, Fl.z3]
              refine Fl.take (some 223) (v := .bool ls) rfl rfl (Or.inl ⟨by rfl, fun _ _ => by have h_ := HLZ.out; first | (go_simp; rw [h_]; done) | (go_simp; rw [h_]; rfl) | (rw [h_]; go_simp; done) | (rw [h_]; go_simp; rfl) | (go_simp; simp [h_]; done)⟩) ?_
              simp only [Act.put, Fl.z1, Fl.z2, Fl.z3]
              refine Fl.take (some 224) (v := .bool true) rfl rfl (Or.inl ⟨by rfl, fun _ _ => by first | (go_simp; done) | (go_simp; rfl) | (go_simp; simp)⟩) ?_
              simp only [Act.put, Fl.z1, Fl.z2, Fl.z3]
              refine Fl.take (some 225) (v := .bool true) rfl rfl (Or.inl ⟨by rfl, fun _ _ => by rfl⟩) ?_
              simp only [Act.put, Fl.z1, Fl.z2, Fl.z3]
              refine Fl.take (some 2) (v := .bool true) rfl rfl (Or.inl ⟨by rfl, fun _ _ => by rfl⟩) ?_
              simp only [Act.put, Fl.z1, Fl.z2, Fl.z3]
              refine Fl.fin0 ?_
              refine Fl.stopN (fun W hi => ?_)
              replace HI := Lib.hid hi
              clear hi
              go_wp2
              go_ret
              exact ⟨rfl, HI.out.bel⟩
      | false =>
        go_upto_region 19 with (fail)
        refine Fl.startW [.take 0, .take 1, .take 2, .take 3, .take 4, .take 5, .take 6, .take 7, .take 8, .take 9, .take 10, .take 11] (by decide) HI.out ?_
        refine Fl.take (some 141) (v := .bool false) rfl rfl (Or.inl ⟨by rfl, fun _ _ => by rfl⟩) ?_
        simp only [Act.put, Fl.z1, Fl.z2, Fl.z3]
        refine Fl.take (some 142) (v := .bool false) rfl rfl (Or.inl ⟨by rfl, fun _ _ => by rfl⟩) ?_
        simp only [Act.put, Fl.z1, Fl.z2, Fl.z3]
        refine Fl.take (some 143) (v := undef) rfl rfl (Or.inr ⟨by rfl, rfl⟩) ?_
        simp only [Act.put, Fl.z1, Fl.z2, Fl.z3]
        refine Fl.take (some 144) (v := undef) rfl rfl (Or.inr ⟨by rfl, rfl⟩) ?_
        simp only [Act.put, Fl.z1, Fl.z2, Fl.z3]
        refine Fl.take (some 145) (v := undef) rfl rfl (Or.inr ⟨by rfl, rfl⟩) ?_
        simp only [Act.put, Fl.z1, Fl.z2, Fl.z3]
        refine Fl.take (some 146) (v := undef) rfl rfl (Or.inr ⟨by rfl, rfl⟩) ?_
        simp only [Act.put, Fl.z1, Fl.z2, Fl.z3]
        refine Fl.take (some 147) (v := undef) rfl rfl (Or.inr ⟨by rfl, rfl⟩) ?_
        simp only [Act.put, Fl.z1, Fl.z2, Fl.z3]
        refine Fl.take (some 148) (v := undef) rfl rfl (Or.inr ⟨by rfl, rfl⟩) ?_
        simp only [Act.put, Fl.z1, Fl.z2, Fl.z3]
        refine Fl.take (some 149) (v := undef) rfl rfl (Or.inr ⟨by rfl, rfl⟩) ?_
        simp only [Act.put, Fl.z1, Fl.z2, Fl.z3]
        refine Fl.take (some 150) (v := undef) rfl rfl (Or.inr ⟨by rfl, rfl⟩) ?_
        simp only [Act.put, Fl.z1, Fl.z2, Fl.z3]
        refine Fl.take (some 151) (v := undef) rfl rfl (Or.inr ⟨by rfl, rfl⟩) ?_
        simp only [Act.put, Fl.z1, Fl.z2, Fl.z3]
        refine Fl.take (some 152) (v := .bool false) rfl rfl (Or.inl ⟨by rfl, fun _ _ => by rfl⟩) ?_
        simp only [Act.put, Fl.z1, Fl.z2, Fl.z3]
        refine Fl.stopW (fun W hi => ?_)
        replace HI := Lib.hid hi
        clear hi
        go_upto_region 21 with (fail)
        refine Fl.startW [.one 0, .one 1, .one 2, .take 3] (by decide) HI.out ?_
        refine Fl.ldF (some 153) 12 rfl rfl rfl (by rfl) _ _ rfl rfl Try.underlying26 rfl (Ky.hKk HGB.out.1) ?_
        simp only [Act.put, Fl.z1, Fl.z2, Fl.z3]
        refine Fl.ldF (some 154) 13 rfl rfl rfl (by rfl) _ _ rfl rfl Try.underlying26 rfl (Ky.hKk HGA.out.1) ?_
        simp only [Act.put, Fl.z1, Fl.z2, Fl.z3]
        refine Fl.call (some 155) Try.func22 (by kernel_rfl) rfl #[.agg (Ky.bs b), .agg (Ky.bs a)] rfl rfl rfl (by rfl) rfl (fun E2 W2 hE2 hi => ?_)
        refine (impl_LessKey.calls b a bk W2 HGB.out.1 HGA.out.1 HLB.out).mono ?_
        rintro e W' ⟨rfl, hb⟩
        refine Fl.keep (v := .bool bk) hi hb ?_
        clear hi hb hE2
        simp only [Act.put, Fl.z1, Fl.z2, Fl.z3]
        refine Fl.take (some 23) (v := .bool bk) rfl rfl (Or.inl ⟨by rfl, fun _ _ => by rfl⟩) ?_
        simp only [Act.put, Fl.z1, Fl.z2, Fl.z3]
        refine Fl.stopW (fun W hi => ?_)
        replace HI := Lib.hid hi
        clear hi
        by_cases hab : a = b
        · have HD : Hid (decide (a = b) = true) := Lib.hid (decide_eq_true hab)
          obtain rfl : ls = false := by rw [HEL.out, hab]; exact Ky.less_self b
          obtain rfl : bk = false := by rw [HEB.out, hab]; exact Ky.less_self b
          obtain rfl : cb = 128 := by rw [HEC.out, hab, Ky.common_self, show b.length = 16 from HGB.out.1]
          clear hab
          go_upto_region 22 with (fail)
          refine Fl.startW [.one 0, .one 1, .take 2, .take 3, .take 4, .take 5, .take 6, .one 7, .one 8, .take 9, .take 10, .take 11, .take 12, .take 13, .take 14, .take 15, .take 16, .take 17, .take 18, .take 19, .take 20, .take 21, .take 22, .one 23, .one 24, .one 25, .take 26, .take 27, .take 28] (by decide) HI.out ?_
          refine Fl.ldF (some 156) 13 rfl rfl rfl (by rfl) _ _ rfl rfl Try.underlying26 rfl (Ky.hKk HGA.out.1) ?_
          simp only [Act.put, Fl.z1, Fl.z2, Fl.z3]
          refine Fl.ldF (some 157) 12 rfl rfl rfl (by rfl) _ _ rfl rfl Try.underlying26 rfl (Ky.hKk HGB.out.1) ?_
          simp only [Act.put, Fl.z1, Fl.z2, Fl.z3]
          refine Fl.take (some 158) (v := .bool true) rfl rfl (Ky.yields_eqKeyB HD.out HGA.out.1 HGB.out.1 (by rfl) _ _ _ rfl rfl rfl) ?_
          simp only [Act.put, Fl.z1, Fl.z2, Fl.z3]
          refine Fl.take (some 159) (v := .int .i64 ((128 : Nat) : Int)) rfl rfl (Or.inl ⟨by rfl, fun _ _ => by rfl⟩) ?_
          simp only [Act.put, Fl.z1, Fl.z2, Fl.z3]
          refine Fl.take (some 160) (v := .bool true) rfl rfl (Or.inl ⟨by rfl, fun _ _ => by first | rfl | (go_simp; done) | (go_simp; rfl)⟩) ?_
          simp only [Act.put, Fl.z1, Fl.z2, Fl.z3]
          refine Fl.take (some 161) (v := .bool false) rfl rfl (Or.inl ⟨by rfl, fun _ _ => by first | rfl | (go_simp; done) | (go_simp; rfl) | (go_simp; simp)⟩) ?_
          simp only [Act.put, Fl.z1, Fl.z2, Fl.z3]
          refine Fl.take (some 162) (v := .bool false) rfl rfl (Or.inl ⟨by rfl, fun _ _ => by rfl⟩) ?_
          simp only [Act.put, Fl.z1, Fl.z2, Fl.z3]
          refine Fl.ldF (some 163) 13 rfl rfl rfl (by rfl) _ _ rfl rfl Try.underlying26 rfl (Ky.hKk HGA.out.1) ?_
          simp only [Act.put, Fl.z1, Fl.z2, Fl.z3]
          refine Fl.ldF (some 164) 12 rfl rfl rfl (by rfl) _ _ rfl rfl Try.underlying26 rfl (Ky.hKk HGB.out.1) ?_
          simp only [Act.put, Fl.z1, Fl.z2, Fl.z3]
          refine Fl.take (some 165) (v := .bool true) rfl rfl (Ky.yields_eqKeyB HD.out HGA.out.1 HGB.out.1 (by rfl) _ _ _ rfl rfl rfl) ?_
          simp only [Act.put, Fl.z1, Fl.z2, Fl.z3]
          refine Fl.take (some 166) (v := .bool false) rfl rfl (Or.inl ⟨by rfl, fun _ _ => by rfl⟩) ?_
          simp only [Act.put, Fl.z1, Fl.z2, Fl.z3]
          refine Fl.take (some 167) (v := .bool false) rfl rfl (Or.inl ⟨by rfl, fun _ _ => by rfl⟩) ?_
          simp only [Act.put, Fl.z1, Fl.z2, Fl.z3]
          refine Fl.take (some 168) (v := .bool false) rfl rfl (Or.inl ⟨by rfl, fun _ _ => by rfl⟩) ?_
          simp only [Act.put, Fl.z1, Fl.z2, Fl.z3]
          refine Fl.take (some 169) (v := .bool false) rfl rfl (Or.inl ⟨by rfl, fun _ _ => by rfl⟩) ?_
          simp only [Act.put, Fl.z1, Fl.z2, Fl.z3]
          refine Fl.take (some 170) (v := .bool false) rfl rfl (Or.inl ⟨by rfl, fun _ _ => by first | rfl | (go_simp; done) | (go_simp; rfl) | (go_simp; simp)⟩) ?_
          simp only [Act.put, Fl.z1, Fl.z2, Fl.z3]
          refine Fl.take (some 171) (v := .bool false) rfl rfl (Or.inl ⟨by rfl, fun _ _ => by rfl⟩) ?_
          simp only [Act.put, Fl.z1, Fl.z2, Fl.z3]
          refine Fl.take (some 172) (v := .bool false) rfl rfl (Or.inl ⟨by rfl, fun _ _ => by rfl⟩) ?_
          simp only [Act.put, Fl.z1, Fl.z2, Fl.z3]
          refine Fl.take (some 173) (v := .bool false) rfl rfl (Or.inl ⟨by rfl, fun _ _ => by rfl⟩) ?_
          simp only [Act.put, Fl.z1, Fl.z2, Fl.z3]
          refine Fl.take (some 174) (v := .bool false) rfl rfl (Or.inl ⟨by rfl, fun _ _ => by rfl⟩) ?_
          simp only [Act.put, Fl.z1, Fl.z2, Fl.z3]
          refine Fl.take (some 175) (v := undef) rfl rfl (Or.inr ⟨by rfl, rfl⟩) ?_
          simp only [Act.put, Fl.z1, Fl.z2, Fl.z3]
          refine Fl.take (some 176) (v := .bool false) rfl rfl (Or.inl ⟨by rfl, fun _ _ => by rfl⟩) ?_
          simp only [Act.put, Fl.z1, Fl.z2, Fl.z3]
          refine Fl.take (some 177) (v := .bool false) rfl rfl (Or.inl ⟨by rfl, fun _ _ => by rfl⟩) ?_
          simp only [Act.put, Fl.z1, Fl.z2, Fl.z3]
          refine Fl.take (some 178) (v := .bool false) rfl rfl (Or.inl ⟨by rfl, fun _ _ => by rfl⟩) ?_
          simp only [Act.put, Fl.z1, Fl.z2, Fl.z3]
          refine Fl.ldF (some 179) 12 rfl rfl rfl (by rfl) _ _ rfl rfl Try.underlying26 rfl (Ky.hKk HGB.out.1) ?_
          simp only [Act.put, Fl.z1, Fl.z2, Fl.z3]
          refine Fl.ldF (some 180) 13 rfl rfl rfl (by rfl) _ _ rfl rfl Try.underlying26 rfl (Ky.hKk HGA.out.1) ?_
          simp only [Act.put, Fl.z1, Fl.z2, Fl.z3]
          refine Fl.call (some 181) Try.func23 (by kernel_rfl) rfl #[.agg (Ky.bs b), .agg (Ky.bs a)] rfl rfl rfl (by rfl) rfl (fun E2 W2 hE2 hi => ?_)
          refine (impl_CommonBits.calls b a ((128 : Nat) : Int) W2 HGB.out.1 HGA.out.1 HCB.out).mono ?_
          rintro e W' ⟨rfl, hb⟩
          refine Fl.keep (v := .int .i64 ((128 : Nat) : Int)) hi hb ?_
          clear hi hb hE2
          simp only [Act.put, Fl.z1, Fl.z2, Fl.z3]
          refine Fl.take (some 182) (v := .int .i64 ((128 : Nat) : Int)) rfl rfl (Or.inl ⟨by rfl, fun _ _ => by rfl⟩) ?_
          simp only [Act.put, Fl.z1, Fl.z2, Fl.z3]
          refine Fl.take (some 183) (v := .bool false) rfl rfl (Or.inl ⟨by rfl, fun _ _ => by first | rfl | (go_simp; done) | (go_simp; rfl) | (go_simp; simp)⟩) ?_
          simp only [Act.put, Fl.z1, Fl.z2, Fl.z3]
          refine Fl.take (some 184) (v := .bool false) rfl rfl (Or.inl ⟨by rfl, fun _ _ => by rfl⟩) ?_
          simp only [Act.put, Fl.z1, Fl.z2, Fl.z3]
          refine Fl.stopW (fun W hi => ?_)
          replace HI := Lib.hid hi
          clear hi
          go_upto_region 24 with (fail)
          refine Fl.startW [.one 0, .one 1, .take 2] (by decide) HI.out ?_
          refine Fl.ldF (some 185) 13 rfl rfl rfl (by rfl) _ _ rfl rfl Try.underlying26 rfl (Ky.hKk HGA.out.1) ?_
          simp only [Act.put, Fl.z1, Fl.z2, Fl.z3]
          refine Fl.ldF (some 186) 12 rfl rfl rfl (by rfl) _ _ rfl rfl Try.underlying26 rfl (Ky.hKk HGB.out.1) ?_
          simp only [Act.put, Fl.z1, Fl.z2, Fl.z3]
          refine Fl.take (some 187) (v := .bool true) rfl rfl (Ky.yields_eqKeyB HD.out HGA.out.1 HGB.out.1 (by rfl) _ _ _ rfl rfl rfl) ?_
          simp only [Act.put, Fl.z1, Fl.z2, Fl.z3]
          refine Fl.stopW (fun W hi => ?_)
          replace HI := Lib.hid hi
          clear hi
          go_wp2
          go_ret
          exact ⟨rfl, HI.out.bel⟩
        · have HD : Hid (decide (a = b) = false) := Lib.hid (decide_eq_false hab)
          obtain ⟨n, c_, x, y, hn, hc8, hx, hy, hal, hcm, hd, hlz, hlb⟩ := Ky.keys_ne HGA.out.1 HGB.out.1 HGA.out.2 HGB.out.2 hab
          rw [← HEC.out] at hcm
          obtain rfl : bk = !ls := by rw [HEB.out, HEL.out]; exact hlb
          rw [← HEL.out] at hlz
          have HNE : Hid (¬ (cb : Int) = 128) := Lib.hid (by omega)
          have HC8 := Lib.hid hc8
          have HNN := Lib.hid hn
          have HX := Lib.hid hx
          have HY := Lib.hid hy
          have HAL := Lib.hid hal
          have HDX := Lib.hid hd
          have HLZ := Lib.hid hlz
          have HQ1 : Hid (IntKind.i64.wrap (Int.tdiv (cb : Int) 8) = (n : Int)) := Lib.hid (by rw [IntKind.wrap_i64, Int.tdiv_eq_ediv_of_nonneg (by omega)]; omega)
          have HQ2 : Hid (Int.tmod (cb : Int) 8 = ((7 - c_ : Nat) : Int)) := Lib.hid (by rw [Int.tmod_eq_emod_of_nonneg (by omega)]; omega)
          clear hab hn hc8 hx hy hal hd hlz hlb hcm
          go_upto_region 22 with (fail)
          refine Fl.startW [.one 0, .one 1, .take 2, .take 3, .take 4, .take 5, .take 6, .one 7, .one 8, .take 9, .take 10, .take 11, .take 12, .take 13, .take 14, .take 15, .take 16, .take 17, .take 18, .take 19, .take 20, .take 21, .take 22, .one 23, .one 24, .one 25, .take 26, .take 27, .take 28] (by decide) HI.out ?_
          refine Fl.ldF (some 156) 13 rfl rfl rfl (by rfl) _ _ rfl rfl Try.underlying26 rfl (Ky.hKk HGA.out.1) ?_
          simp only [Act.put, Fl.z1, Fl.z2, Fl.z3]
          refine Fl.ldF (some 157) 12 rfl rfl rfl (by rfl) _ _ rfl rfl Try.underlying26 rfl (Ky.hKk HGB.out.1) ?_
          simp only [Act.put, Fl.z1, Fl.z2, Fl.z3]
          refine Fl.take (some 158) (v := .bool false) rfl rfl (Ky.yields_eqKeyB HD.out HGA.out.1 HGB.out.1 (by rfl) _ _ _ rfl rfl rfl) ?_
          simp only [Act.put, Fl.z1, Fl.z2, Fl.z3]
          refine Fl.take (some 159) (v := .int .i64 (cb : Int)) rfl rfl (Or.inl ⟨by rfl, fun _ _ => by rfl⟩) ?_
          simp only [Act.put, Fl.z1, Fl.z2, Fl.z3]
          refine Fl.take (some 160) (v := .bool false) rfl rfl (Or.inl ⟨by rfl, fun _ _ => by have h_ := eq_false HNE.out; first | (go_simp; done) | (go_simp; rfl) | (go_simp; simp [h_]; done) | (go_simp; simp; omega)⟩) ?_
          simp only [Act.put, Fl.z1, Fl.z2, Fl.z3]
          refine Fl.take (some 161) (v := .bool false) rfl rfl (Or.inl ⟨by rfl, fun _ _ => by first | rfl | (go_simp; done) | (go_simp; rfl) | (go_simp; simp)⟩) ?_
          simp only [Act.put, Fl.z1, Fl.z2, Fl.z3]
          refine Fl.take (some 162) (v := .bool false) rfl rfl (Or.inl ⟨by rfl, fun _ _ => by rfl⟩) ?_
          simp only [Act.put, Fl.z1, Fl.z2, Fl.z3]
          refine Fl.ldF (some 163) 13 rfl rfl rfl (by rfl) _ _ rfl rfl Try.underlying26 rfl (Ky.hKk HGA.out.1) ?_
          simp only [Act.put, Fl.z1, Fl.z2, Fl.z3]
          refine Fl.ldF (some 164) 12 rfl rfl rfl (by rfl) _ _ rfl rfl Try.underlying26 rfl (Ky.hKk HGB.out.1) ?_
          simp only [Act.put, Fl.z1, Fl.z2, Fl.z3]
          refine Fl.take (some 165) (v := .bool false) rfl rfl (Ky.yields_eqKeyB HD.out HGA.out.1 HGB.out.1 (by rfl) _ _ _ rfl rfl rfl) ?_
          simp only [Act.put, Fl.z1, Fl.z2, Fl.z3]
          refine Fl.take (some 166) (v := .bool ls) rfl rfl (Or.inl ⟨by rfl, fun _ _ => by rfl⟩) ?_
          simp only [Act.put, Fl.z1, Fl.z2, Fl.z3]
          refine Fl.take (some 167) (v := .bool ls) rfl rfl (Or.inl ⟨by rfl, fun _ _ => by rfl⟩) ?_
          simp only [Act.put, Fl.z1, Fl.z2, Fl.z3]
          refine Fl.take (some 168) (v := (cond ls undef (.bool (!ls)))) rfl rfl (by cases ls <;> first | exact Or.inr ⟨by rfl, by rfl⟩ | exact Or.inl ⟨by rfl, fun _ _ => by first | rfl | (go_simp; done) | (go_simp; rfl)⟩) ?_
          simp only [Act.put, Fl.z1, Fl.z2, Fl.z3]
          refine Fl.take (some 169) (v := .bool true) rfl rfl (by cases ls <;> first | exact Or.inr ⟨by rfl, by rfl⟩ | exact Or.inl ⟨by rfl, fun _ _ => by first | rfl | (go_simp; done) | (go_simp; rfl)⟩) ?_
          simp only [Act.put, Fl.z1, Fl.z2, Fl.z3]
          refine Fl.take (some 170) (v := .bool false) rfl rfl (Or.inl ⟨by rfl, fun _ _ => by first | rfl | (go_simp; done) | (go_simp; rfl) | (go_simp; simp)⟩) ?_
          simp only [Act.put, Fl.z1, Fl.z2, Fl.z3]
          refine Fl.take (some 171) (v := .bool false) rfl rfl (Or.inl ⟨by rfl, fun _ _ => by rfl⟩) ?_
          simp only [Act.put, Fl.z1, Fl.z2, Fl.z3]
          refine Fl.take (some 172) (v := .bool false) rfl rfl (Or.inl ⟨by rfl, fun _ _ => by rfl⟩) ?_
          simp only [Act.put, Fl.z1, Fl.z2, Fl.z3]
          refine Fl.take (some 173) (v := .bool ls) rfl rfl (Or.inl ⟨by rfl, fun _ _ => by rfl⟩) ?_
          simp only [Act.put, Fl.z1, Fl.z2, Fl.z3]
          refine Fl.take (some 174) (v := .bool ls) rfl rfl (Or.inl ⟨by rfl, fun _ _ => by rfl⟩) ?_
          simp only [Act.put, Fl.z1, Fl.z2, Fl.z3]
          refine Fl.take (some 175) (v := (cond ls (.bool (!ls)) undef)) rfl rfl (by cases ls <;> first | exact Or.inr ⟨by rfl, by rfl⟩ | exact Or.inl ⟨by rfl, fun _ _ => by first | rfl | (go_simp; done) | (go_simp; rfl)⟩) ?_
          simp only [Act.put, Fl.z1, Fl.z2, Fl.z3]
          refine Fl.take (some 176) (v := .bool false) rfl rfl (by cases ls <;> first | exact Or.inr ⟨by rfl, by rfl⟩ | exact Or.inl ⟨by rfl, fun _ _ => by first | rfl | (go_simp; done) | (go_simp; rfl)⟩) ?_
          simp only [Act.put, Fl.z1, Fl.z2, Fl.z3]
          refine Fl.take (some 177) (v := .bool false) rfl rfl (Or.inl ⟨by rfl, fun _ _ => by rfl⟩) ?_
          simp only [Act.put, Fl.z1, Fl.z2, Fl.z3]
          refine Fl.take (some 178) (v := .bool false) rfl rfl (Or.inl ⟨by rfl, fun _ _ => by rfl⟩) ?_
          simp only [Act.put, Fl.z1, Fl.z2, Fl.z3]
          refine Fl.ldF (some 179) 12 rfl rfl rfl (by rfl) _ _ rfl rfl Try.underlying26 rfl (Ky.hKk HGB.out.1) ?_
          simp only [Act.put, Fl.z1, Fl.z2, Fl.z3]
          refine Fl.ldF (some 180) 13 rfl rfl rfl (by rfl) _ _ rfl rfl Try.underlying26 rfl (Ky.hKk HGA.out.1) ?_
          simp only [Act.put, Fl.z1, Fl.z2, Fl.z3]
          refine Fl.call (some 181) Try.func23 (by kernel_rfl) rfl #[.agg (Ky.bs b), .agg (Ky.bs a)] rfl rfl rfl (by rfl) rfl (fun E2 W2 hE2 hi => ?_)
          refine (impl_CommonBits.calls b a (cb : Int) W2 HGB.out.1 HGA.out.1 HCB.out).mono ?_
          rintro e W' ⟨rfl, hb⟩
          refine Fl.keep (v := .int .i64 (cb : Int)) hi hb ?_
          clear hi hb hE2
          simp only [Act.put, Fl.z1, Fl.z2, Fl.z3]
          refine Fl.take (some 182) (v := .int .i64 (cb : Int)) rfl rfl (Or.inl ⟨by rfl, fun _ _ => by rfl⟩) ?_
          simp only [Act.put, Fl.z1, Fl.z2, Fl.z3]
          refine Fl.take (some 183) (v := .bool false) rfl rfl (Or.inl ⟨by rfl, fun _ _ => by first | rfl | (go_simp; done) | (go_simp; rfl) | (go_simp; simp)⟩) ?_
          simp only [Act.put, Fl.z1, Fl.z2, Fl.z3]
          refine Fl.take (some 184) (v := .bool false) rfl rfl (Or.inl ⟨by rfl, fun _ _ => by rfl⟩) ?_
          simp only [Act.put, Fl.z1, Fl.z2, Fl.z3]
          refine Fl.stopW (fun W hi => ?_)
          replace HI := Lib.hid hi
          clear hi
          go_upto_region 24 with (fail)
          refine Fl.startW [.one 0, .one 1, .take 2] (by decide) HI.out ?_
          refine Fl.ldF (some 185) 13 rfl rfl rfl (by rfl) _ _ rfl rfl Try.underlying26 rfl (Ky.hKk HGA.out.1) ?_
          simp only [Act.put, Fl.z1, Fl.z2, Fl.z3]
          refine Fl.ldF (some 186) 12 rfl rfl rfl (by rfl) _ _ rfl rfl Try.underlying26 rfl (Ky.hKk HGB.out.1) ?_
          simp only [Act.put, Fl.z1, Fl.z2, Fl.z3]
          refine Fl.take (some 187) (v := .bool false) rfl rfl (Ky.yields_eqKeyB HD.out HGA.out.1 HGB.out.1 (by rfl) _ _ _ rfl rfl rfl) ?_
          simp only [Act.put, Fl.z1, Fl.z2, Fl.z3]
          refine Fl.stopW (fun W hi => ?_)
          replace HI := Lib.hid hi
          clear hi
          go_upto_region 26 with (fail)
          refine Fl.startW [.take 0, .take 1, .take 2] (by decide) HI.out ?_
          refine Fl.take (some 188) (v := .int .i64 (cb : Int)) rfl rfl (Or.inl ⟨by rfl, fun _ _ => by rfl⟩) ?_
          simp only [Act.put, Fl.z1, Fl.z2, Fl.z3]
          refine Fl.take (some 189) (v := .int .i64 (n : Int)) rfl rfl (Fz.yields_quo (by rfl) _ _ _ _ rfl (cb : Int) 8 (n : Int) rfl rfl (by decide) HQ1.out) ?_
          simp only [Act.put, Fl.z1, Fl.z2, Fl.z3]
          refine Fl.take (some 24) (v := .int .i64 (n : Int)) rfl rfl (Or.inl ⟨by rfl, fun _ _ => by rfl⟩) ?_
          simp only [Act.put, Fl.z1, Fl.z2, Fl.z3]
          refine Fl.stopW (fun W hi => ?_)
          replace HI := Lib.hid hi
          clear hi
          go_upto_region 27 with (fail)
          refine Fl.startW [.take 0, .take 1, .take 2, .take 3] (by decide) HI.out ?_
          refine Fl.take (some 190) (v := .int .i64 (cb : Int)) rfl rfl (Or.inl ⟨by rfl, fun _ _ => by rfl⟩) ?_
          simp only [Act.put, Fl.z1, Fl.z2, Fl.z3]
          refine Fl.take (some 191) (v := .int .i64 ((7 - c_ : Nat) : Int)) rfl rfl (Fz.yields_rem (by rfl) _ _ _ _ rfl (cb : Int) 8 ((7 - c_ : Nat) : Int) rfl rfl (by decide) HQ2.out) ?_
          simp only [Act.put, Fl.z1, Fl.z2, Fl.z3]
          refine Fl.take (some 192) (v := .int .u8 ((2 ^ c_ : Nat) : Int)) rfl rfl (Ky.yields_shr HC8.out (by rfl) _ _ _ _ rfl rfl rfl) ?_
          simp only [Act.put, Fl.z1, Fl.z2, Fl.z3]
          refine Fl.take (some 25) (v := .int .u8 ((2 ^ c_ : Nat) : Int)) rfl rfl (Or.inl ⟨by rfl, fun _ _ => by rfl⟩) ?_
          simp only [Act.put, Fl.z1, Fl.z2, Fl.z3]
          refine Fl.stopW (fun W hi => ?_)
          replace HI := Lib.hid hi
          clear hi
          obtain ⟨mk, hmk⟩ : ∃ x, x = ((2 ^ c_ : Nat) : Int) := ⟨_, rfl⟩
          rw [← hmk] at HDX HLZ
          rw [← hmk]
          clear hmk HC8
          replace HI : Hid (Lv.Inv w W [Lv.boxF g3 (Ky.bs a) 26, Lv.boxF g4 (Ky.bs b) 26]) := Lib.hid (Fl.inv_sel HI.out [13, 12] (by decide))
          go_wp2
          go_loopg [26] n (fun gg s26 wr => ∃ k : Nat, s26 = .int .i64 (k : Int) ∧ Hid (k ≤ n ∧ n - k ≤ gg) ∧ Hid (Lv.Inv w wr [Lv.boxF g3 (Ky.bs a) 26, Lv.boxF g4 (Ky.bs b) 26]))
          case atStart => exact ⟨0, rfl, Lib.hid (by simp), HI⟩
          case round =>
            clear HI
            obtain ⟨k, rfl, HK, HI⟩ := hrel
            by_cases hlt : k < n
            · have k0 : (0 : Int) ≤ (k : Int) := by omega
              have k1 : (k : Int) < (n : Int) := by omega
              have k2 : (k : Int) < 16 := by have := HNN.out; omega
              obtain ⟨z, hz⟩ : ∃ z, a[k]? = some z := ⟨_, List.getElem?_eq_getElem (by rw [show a.length = 16 from HGA.out.1]; omega)⟩
              have HZA := Lib.hid hz
              have HZB : Hid (b[k]? = some z) := Lib.hid (by rw [← HAL.out k hlt]; exact hz)
              clear hz
              go_upto_region 31 with (fail)
              refine Fl.start [([],[]),([0],[0]),([1],[1]),([],[]),([3],[3]),([4],[4]),([2,5],[2,5])] [] 8 [.take 0, .take 1, .take 2, .take 3, .take 4, .take 5, .take 6] [] (by kernel_rfl) (by kernel_rfl) (by decide) (by decide) (by kernel_rfl) (by kernel_rfl) Fl.mk0 HI.out ?_
              refine Fl.take (some 198) (v := .int .i64 (k : Int)) rfl rfl (Or.inl ⟨by rfl, fun _ _ => by rfl⟩) ?_
              simp only [Act.put, Fl.z1, Fl.z2, Fl.z3]
              refine Fl.take (some 199) (v := .pointer (some ⟨g3, k, none⟩)) rfl rfl (Or.inl ⟨by rfl, fun _ _ => by first | rfl | (go_simp; done) | (go_simp; rfl) | (go_simp; omega)⟩) ?_
              simp only [Act.put, Fl.z1, Fl.z2, Fl.z3]
              refine Fl.take (some 200) (v := .int .u8 z) rfl rfl (Fl.ldc 0 k rfl (by rfl) _ _ rfl rfl (Ky.bs_get HZA.out) Try.underlying5 rfl) ?_
              simp only [Act.put, Fl.z1, Fl.z2, Fl.z3]
              refine Fl.take (some 201) (v := .int .i64 (k : Int)) rfl rfl (Or.inl ⟨by rfl, fun _ _ => by rfl⟩) ?_
              simp only [Act.put, Fl.z1, Fl.z2, Fl.z3]
              refine Fl.take (some 202) (v := .pointer (some ⟨g4, k, none⟩)) rfl rfl (Or.inl ⟨by rfl, fun _ _ => by first | rfl | (go_simp; done) | (go_simp; rfl) | (go_simp; omega)⟩) ?_
              simp only [Act.put, Fl.z1, Fl.z2, Fl.z3]
              refine Fl.take (some 203) (v := .int .u8 z) rfl rfl (Fl.ldc 1 k rfl (by rfl) _ _ rfl rfl (Ky.bs_get HZB.out) Try.underlying5 rfl) ?_
              simp only [Act.put, Fl.z1, Fl.z2, Fl.z3]
              refine Fl.take (some 204) (v := .bool false) rfl rfl (Or.inl ⟨by rfl, fun _ _ => by first | rfl | (go_simp; done) | (go_simp; rfl) | (go_simp; simp)⟩) ?_
              simp only [Act.put, Fl.z1, Fl.z2, Fl.z3]
              refine Fl.fin0 ?_
              refine Fl.stopN (fun W hi => ?_)
              replace HI := Lib.hid hi
              clear hi
              go_wp2
              go_roundg (n - (k + 1))
              case measure => have := HK.out; omega
              case rel => exact ⟨k + 1, by go_num, Lib.hid (by have := HK.out; omega), HI⟩
            · obtain rfl : k = n := by have := HK.out; omega
              have k1 : ¬ (k : Int) < (k : Int) := by omega
              have k0 : (0 : Int) ≤ (k : Int) := by omega
              have k2 : (k : Int) < 16 := by have := HNN.out; omega
              obtain ⟨px, hpx⟩ : ∃ v, v = Go.bits .and .u8 x mk := ⟨_, rfl⟩
              obtain ⟨py, hpy⟩ : ∃ v, v = Go.bits .and .u8 y mk := ⟨_, rfl⟩
              rw [← hpx, ← hpy] at HDX
              rw [← hpx] at HLZ
              have HPX := Lib.hid hpx.symm
              have HPY := Lib.hid hpy.symm
              clear hpx hpy
              go_upto_region 33 with (fail)
              refine Fl.start [([],[]),([0],[0]),([1],[1]),([],[]),([2,3],[2,3]),([],[]),([5],[5]),([6],[6]),([],[]),([7,8],[7,8]),([4,9],[4,9]),([10],[10]),([11],[11]),([11],[11]),([13,11],[11,13]),([14,11],[11,14]),([11],[11]),([15,16,11],[11,15,16]),([17,11],[11,17]),([12,18,11],[11,12,18]),([11,19],[11,19]),([20,11,0,1,2,3,4,5,6,7,8,9,10,11,12,13,14,15,16,17,18,19,20],[20])] [] 23 [.take 0, .take 1, .take 2, .take 3, .take 4, .take 5, .take 6, .take 7, .take 8, .take 9, .take 10, .take 11, .take 12, .take 13, .take 14, .take 15, .take 16, .take 17, .take 18, .take 19, .take 20, .take 21] [] (by kernel_rfl) (by kernel_rfl) (by decide) (by decide) (by kernel_rfl) (by kernel_rfl) Fl.mk0 HI.out ?_
              refine Fl.take (some 205) (v := .int .i64 (k : Int)) rfl rfl (Or.inl ⟨by rfl, fun _ _ => by rfl⟩) ?_
              simp only [Act.put, Fl.z1, Fl.z2, Fl.z3]
              refine Fl.take (some 206) (v := .pointer (some ⟨g3, k, none⟩)) rfl rfl (Or.inl ⟨by rfl, fun _ _ => by first | rfl | (go_simp; done) | (go_simp; rfl) | (go_simp; omega)⟩) ?_
              simp only [Act.put, Fl.z1, Fl.z2, Fl.z3]
              refine Fl.take (some 207) (v := .int .u8 x) rfl rfl (Fl.ldc 0 k rfl (by rfl) _ _ rfl rfl (Ky.bs_get HX.out) Try.underlying5 rfl) ?_
              simp only [Act.put, Fl.z1, Fl.z2, Fl.z3]
              refine Fl.take (some 208) (v := .int .u8 mk) rfl rfl (Or.inl ⟨by rfl, fun _ _ => by rfl⟩) ?_
              simp only [Act.put, Fl.z1, Fl.z2, Fl.z3]
              refine Fl.take (some 209) (v := .int .u8 px) rfl rfl (Or.inl ⟨by rfl, fun _ _ => by have h_ := HPX.out; first | (go_simp; done) | (go_simp; rw [h_]; done) | (go_simp; simp only [h_]; done) | (go_simp; rw [h_]; rfl)⟩) ?_
              simp only [Act.put, Fl.z1, Fl.z2, Fl.z3]
              refine Fl.take (some 210) (v := .int .i64 (k : Int)) rfl rfl (Or.inl ⟨by rfl, fun _ _ => by rfl⟩) ?_
              simp only [Act.put, Fl.z1, Fl.z2, Fl.z3]
              refine Fl.take (some 211) (v := .pointer (some ⟨g4, k, none⟩)) rfl rfl (Or.inl ⟨by rfl, fun _ _ => by first | rfl | (go_simp; done) | (go_simp; rfl) | (go_simp; omega)⟩) ?_
              simp only [Act.put, Fl.z1, Fl.z2, Fl.z3]
              refine Fl.take (some 212) (v := .int .u8 y) rfl rfl (Fl.ldc 1 k rfl (by rfl) _ _ rfl rfl (Ky.bs_get HY.out) Try.underlying5 rfl) ?_
              simp only [Act.put, Fl.z1, Fl.z2, Fl.z3]
              refine Fl.take (some 213) (v := .int .u8 mk) rfl rfl (Or.inl ⟨by rfl, fun _ _ => by rfl⟩) ?_
              simp only [Act.put, Fl.z1, Fl.z2, Fl.z3]
              refine Fl.take (some 214) (v := .int .u8 py) rfl rfl (Or.inl ⟨by rfl, fun _ _ => by have h_ := HPY.out; first | (go_simp; done) | (go_simp; rw [h_]; done) | (go_simp; simp only [h_]; done) | (go_simp; rw [h_]; rfl)⟩) ?_
              simp only [Act.put, Fl.z1, Fl.z2, Fl.z3]
              refine Fl.take (some 215) (v := .bool true) rfl rfl (Or.inl ⟨by rfl, fun _ _ => by have h_ := eq_false HDX.out; first | (go_simp; done) | (go_simp; rfl) | (go_simp; simp [h_]; done) | (go_simp; simp; omega)⟩) ?_
              simp only [Act.put, Fl.z1, Fl.z2, Fl.z3]
              refine Fl.take (some 216) (v := .bool true) rfl rfl (Or.inl ⟨by rfl, fun _ _ => by rfl⟩) ?_
              simp only [Act.put, Fl.z1, Fl.z2, Fl.z3]
              refine Fl.take (some 217) (v := .bool ls) rfl rfl (Or.inl ⟨by rfl, fun _ _ => by rfl⟩) ?_
              simp only [Act.put, Fl.z1, Fl.z2, Fl.z3]
              refine Fl.take (some 218) (v := .int .i64 (k : Int)) rfl rfl (Or.inl ⟨by rfl, fun _ _ => by rfl⟩) ?_
              simp only [Act.put, Fl.z1, Fl.z2, Fl.z3]
              refine Fl.take (some 219) (v := .pointer (some ⟨g3, k, none⟩)) rfl rfl (Or.inl ⟨by rfl, fun _ _ => by first | rfl | (go_simp; done) | (go_simp; rfl) | (go_simp; omega)⟩) ?_
              simp only [Act.put, Fl.z1, Fl.z2, Fl.z3]
              refine Fl.take (some 220) (v := .int .u8 x) rfl rfl (Fl.ldc 0 k rfl (by rfl) _ _ rfl rfl (Ky.bs_get HX.out) Try.underlying5 rfl) ?_
              simp only [Act.put, Fl.z1, Fl.z2, Fl.z3]
              refine Fl.take (some 221) (v := .int .u8 mk) rfl rfl (Or.inl ⟨by rfl, fun _ _ => by rfl⟩) ?_
              simp only [Act.put, Fl.z1, Fl.z2, Fl.z3]
              refine Fl.take (some 222) (v := .int .u8 px) rfl rfl (Or.inl ⟨by rfl, fun _ _ => by have h_ := HPX.out; first | (go_simp; done) | (go_simp; rw [h_]; done) | (go_simp; simp only [h_]; done) | (go_simp; rw [h_]; rfl)⟩) ?_
              simp only [Act.put, Fl.z1, Fl.z2, Fl.z3]
              refine Fl.take (some 223) (v := .bool ls) rfl rfl (Or.inl ⟨by rfl, fun _ _ => by have h_ := HLZ.out; first | (go_simp; rw [h_]; done) | (go_simp; rw [h_]; rfl) | (rw [h_]; go_simp; done) | (rw [h_]; go_simp; rfl) | (go_simp; simp [h_]; done)⟩) ?_
              simp only [Act.put, Fl.z1, Fl.z2, Fl.z3]
              refine Fl.take (some 224) (v := .bool true) rfl rfl (Or.inl ⟨by rfl, fun _ _ => by first | (go_simp; done) | (go_simp; rfl) | (go_simp; simp)⟩) ?_
              simp only [Act.put, Fl.z1, Fl.z2, Fl.z3]
              refine Fl.take (some 225) (v := .bool true) rfl rfl (Or.inl ⟨by rfl, fun _ _ => by rfl⟩) ?_
              simp only [Act.put, Fl.z1, Fl.z2, Fl.z3]
              refine Fl.take (some 2) (v := .bool true) rfl rfl (Or.inl ⟨by rfl, fun _ _ => by rfl⟩) ?_
              simp only [Act.put, Fl.z1, Fl.z2, Fl.z3]
              refine Fl.fin0 ?_
              refine Fl.stopN (fun W hi => ?_)
              replace HI := Lib.hid hi
              clear hi
              go_wp2
              go_ret
              exact ⟨rfl, HI.out.bel⟩

end Go.Proofs.Ytkifenbcepicjaa.PFnKeys
