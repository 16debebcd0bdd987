/- What is proved here: each Go function that is named below answers, and leaves memory, as the theorem of its name says; no condition beyond those that each theorem states. Laid by this session's own program (wip/driver.py) over the kit's print. -/
import Derived.Test.YtldkbeccpheckaaPFnExactSplitLoanx0
import Derived.Test.YtldkbeccpheckaaPFnExactSplitLoanx1
import Derived.Test.YtldkbeccpheckaaPFnExactSplitLoanx2
import Derived.Test.YtldkbeccpheckaaPFnExactSplitLoanx3
namespace Go.Proofs.Ytldkbeccpheckaa.PFnExactSplitLoan
open Go.RowKit Go.Proofs.YtldkbeccpheckaaW.PrintWords Go.Proofs.YtldkbeccpheckaaW.PrintLast Go.Proofs.YtldkbeccpheckaaW.PrintMore
attribute [local go_sem] max2_int min2_int max_two min_two max_three min_three max_four min_four   -- for this text's walks alone
set_option linter.unusedVariables false
set_option linter.unusedSimpArgs false

/-! ### impl_SplitLoan: function 47 (by hand) -/
def impl_SplitLoan.f (k : Nat) (l0_0 : List (List Int)) (a1_0 : Int) (a1_1 : Int) (a1_2 : Int) (a1_3 : Int) (a1_4 : Bool) (a1_5 : Int) (a1_6 : Int) (a2 : Int) : Option (Int × Int × Int × Int × Bool × Int × Int × Int × Int × Int × Int × Bool × Int × Int × Bool) := (impl_areAnyLoans.f k l0_0 [(⟨⟨a1_0, a1_1, a1_2, a1_3⟩, a1_4, a1_5, a1_6⟩ : S71)]).bind fun y0_0 => if y0_0 = true then (impl_within.f a2 0 a1_2).bind fun y1_0 => if y1_0 = true then (impl_Window_part.f a1_0 a1_1 a1_2 a1_3 0 a2).bind fun y2 => some (y2.1, y2.2.1, y2.2.2.1, y2.2.2.2, a1_4, a1_5, a1_6, a1_0, (wrap64 (a1_1 + a2)), (wrap64 (a1_2 - a2)), (wrap64 (a1_3 - a2)), a1_4, a1_5, a1_6, true) else some (0, 0, 0, 0, false, 0, 0, 0, 0, 0, 0, false, 0, 0, false) else some (0, 0, 0, 0, false, 0, 0, 0, 0, 0, 0, false, 0, 0, false)
theorem impl_SplitLoan.mono : ∀ x0 x1 x2 x3 x4 x5 x6 x7 x8 k, LeO (impl_SplitLoan.f k x0 x1 x2 x3 x4 x5 x6 x7 x8) (impl_SplitLoan.f (k + 1) x0 x1 x2 x3 x4 x5 x6 x7 x8) := by
  intro x0 x1 x2 x3 x4 x5 x6 x7 x8 k
  unfold impl_SplitLoan.f
  exact LeO.bind (by apply impl_areAnyLoans.mono) (fun _ => LeO.ite (LeO.bind (LeO.refl _) (fun _ => LeO.ite (LeO.bind (LeO.refl _) (fun _ => LeO.refl _)) (LeO.refl _))) (LeO.refl _))
set_option maxHeartbeats 4000000 in
set_option maxRecDepth 100000 in
theorem impl_SplitLoan.calls (k : Nat) (A0_0 : Option Addr) (c0_0 : Nat) (l0_0 : List (List Int)) (a1_0 : Int) (a1_1 : Int) (a1_2 : Int) (a1_3 : Int) (a1_4 : Bool) (a1_5 : Int) (a1_6 : Int) (a2 : Int) (r1 : Int) (r2 : Int) (r3 : Int) (r4 : Int) (r5 : Bool) (r6 : Int) (r7 : Int) (r8 : Int) (r9 : Int) (r10 : Int) (r11 : Int) (r12 : Bool) (r13 : Int) (r14 : Int) (r15 : Bool) (w : World) (hr0_0 : Kd.C (Kd.slice 5 (Kd.int .u8)) w A0_0 l0_0.length l0_0) (hc0_0 : l0_0.length ≤ c0_0) (h : impl_SplitLoan.f k l0_0 a1_0 a1_1 a1_2 a1_3 a1_4 a1_5 a1_6 a2 = some (r1, r2, r3, r4, r5, r6, r7, r8, r9, r10, r11, r12, r13, r14, r15)) :
    Calls Try.prog 47 #[.agg #[.slice A0_0 l0_0.length c0_0], .agg #[.int .i64 a1_0, .int .i64 a1_1, .int .i64 a1_2, .int .i64 a1_3, .bool a1_4, .int .i64 a1_5, .int .i64 a1_6], .int .i64 a2] w fun e w' => e = .returned (.tuple #[.agg #[.int .i64 r1, .int .i64 r2, .int .i64 r3, .int .i64 r4, .bool r5, .int .i64 r6, .int .i64 r7], .agg #[.int .i64 r8, .int .i64 r9, .int .i64 r10, .int .i64 r11, .bool r12, .int .i64 r13, .int .i64 r14], .bool r15]) ∧ Below w.heap.size w w' := by
  have HR0_0 := Lib.hid hr0_0
  have HC0_0 := Lib.hid hc0_0
  clear hr0_0 hc0_0
  obtain ⟨W0, hW⟩ : ∃ W, W = ((((w.alloc (.cells #[.slice A0_0 l0_0.length c0_0] 31)).alloc (.cells #[.int .i64 a1_0, .int .i64 a1_1, .int .i64 a1_2, .int .i64 a1_3, .bool a1_4, .int .i64 a1_5, .int .i64 a1_6] 71)).alloc (.cells #[.int .i64 0, .int .i64 0, .int .i64 0, .int .i64 0, .bool false, .int .i64 0, .int .i64 0] 71)).alloc (.cells #[.int .i64 0, .int .i64 0, .int .i64 0, .int .i64 0, .bool false, .int .i64 0, .int .i64 0] 71)) := ⟨_, rfl⟩
  have HI : Hid (Lv.Inv w W0 [Lv.boxF (w.heap.size + 3) #[.int .i64 0, .int .i64 0, .int .i64 0, .int .i64 0, .bool false, .int .i64 0, .int .i64 0] 71, Lv.boxF (w.heap.size + 2) #[.int .i64 0, .int .i64 0, .int .i64 0, .int .i64 0, .bool false, .int .i64 0, .int .i64 0] 71, Lv.boxF (w.heap.size + 1) #[.int .i64 a1_0, .int .i64 a1_1, .int .i64 a1_2, .int .i64 a1_3, .bool a1_4, .int .i64 a1_5, .int .i64 a1_6] 71, Lv.boxF (w.heap.size) #[.slice A0_0 l0_0.length c0_0] 31]) := by
    subst hW
    have := (((((Lv.Inv.refl w).box #[.slice A0_0 l0_0.length c0_0] 31).box #[.int .i64 a1_0, .int .i64 a1_1, .int .i64 a1_2, .int .i64 a1_3, .bool a1_4, .int .i64 a1_5, .int .i64 a1_6] 71).box #[.int .i64 0, .int .i64 0, .int .i64 0, .int .i64 0, .bool false, .int .i64 0, .int .i64 0] 71).box #[.int .i64 0, .int .i64 0, .int .i64 0, .int .i64 0, .bool false, .int .i64 0, .int .i64 0] 71)
    exact Lib.hid (by simpa using this)
  unfold impl_SplitLoan.f at h
  replace h := Option.bind_eq_some_iff.mp h
  obtain ⟨y0_0, A0, h⟩ := h
  try dsimp only at h
  have HA0 := Lib.hid A0
  clear A0
  cases y0_0 with
  | true =>
    rw [if_pos rfl] at h
    replace h := Option.bind_eq_some_iff.mp h
    obtain ⟨y1_0, A1, h⟩ := h
    try dsimp only at h
    have HA1 := Lib.hid A1
    clear A1
    cases y1_0 with
    | true =>
      rw [if_pos rfl] at h
      replace h := Option.bind_eq_some_iff.mp h
      obtain ⟨⟨y2_0, y2_1, y2_2, y2_3⟩, A2, h⟩ := h
      try dsimp only at h
      have HA2 := Lib.hid A2
      clear A2
      simp only [Option.some.injEq, Prod.mk.injEq] at h
      obtain ⟨rfl, rfl, rfl, rfl, rfl, rfl, rfl, rfl, rfl, rfl, rfl, rfl, rfl, rfl, rfl⟩ := h
      go_enter Try.func47, Try.ntmps47
      go_upto_region 1 with (fail)
      rw [← hW]
      clear hW
      refine Fl.startL [.take 0, .take 1, .one 2, .one 3] (by decide) HI.out ?_
      refine Fl.take (some 11) (v := .pointer (some ⟨w.heap.size + 1, 0, none⟩)) rfl rfl (Or.inl ⟨by rfl, fun _ _ => by first | rfl | (go_simp; done) | (go_simp; simp only [i64_w])⟩) ?_
      simp only [Act.put, Fl.z1, Fl.z2, Fl.z3]
      refine Fl.take (some 12) (v := .agg #[.int .i64 a1_0, .int .i64 a1_1, .int .i64 a1_2, .int .i64 a1_3]) rfl rfl (Fl.ldP 2 0 #[.int .i64 a1_0, .int .i64 a1_1, .int .i64 a1_2, .int .i64 a1_3] rfl (by rfl) _ _ rfl rfl rfl Try.underlying33 rfl (by kernel_rfl)) ?_
      simp only [Act.put, Fl.z1, Fl.z2, Fl.z3]
      refine Fl.var (N := 9) (cs := #[.int .i64 0, .int .i64 0, .int .i64 0, .int .i64 0]) (t := 33) ⟨_, rfl, rfl, fun _ => rfl, fun e w => by go_simp⟩ (fun b1 => ?_)
      simp only [Act.put, Fl.z1, Fl.z2, Fl.z3]
      refine Fl.store 0 #[.int .i64 a1_0, .int .i64 a1_1, .int .i64 a1_2, .int .i64 a1_3] rfl rfl rfl rfl _ _ _ rfl rfl rfl (by rfl) rfl (by kernel_rfl) (by simp [Value.oneCell']) ?_
      refine Fl.stop (fun W hi => ?_)
      replace HI := Lib.hid hi
      clear hi
      go_upto_region 2 with (fail)
      refine Fl.startL [.take 0, .take 1, .one 2, .one 3, .take 4, .take 5, .take 6, .take 7, .take 8, .one 9, .take 10, .take 11] (by decide) HI.out ?_
      refine Fl.take (some 13) (v := .agg #[.slice A0_0 l0_0.length c0_0]) rfl rfl (Fl.ld 4 rfl (by rfl) _ _ rfl rfl Try.underlying31 rfl (by kernel_rfl)) ?_
      simp only [Act.put, Fl.z1, Fl.z2, Fl.z3]
      refine Fl.take (some 14) (v := .agg #[.int .i64 a1_0, .int .i64 a1_1, .int .i64 a1_2, .int .i64 a1_3, .bool a1_4, .int .i64 a1_5, .int .i64 a1_6]) rfl rfl (Fl.ld 3 rfl (by rfl) _ _ rfl rfl Try.underlying71 rfl (by kernel_rfl)) ?_
      simp only [Act.put, Fl.z1, Fl.z2, Fl.z3]
      refine Fl.lit (N := 15) (cs := #[.int .i64 a1_0, .int .i64 a1_1, .int .i64 a1_2, .int .i64 a1_3, .bool a1_4, .int .i64 a1_5, .int .i64 a1_6]) (t := 71) (n := 1) rfl rfl (by rfl) (fun w => by go_simp) (fun b2 => ?_)
      simp only [Act.put, Fl.z1, Fl.z2, Fl.z3]
      refine Fl.call (some 16) Try.func81 (by kernel_rfl) rfl #[.agg #[.slice A0_0 l0_0.length c0_0], .slice (some ⟨b2, 0, none⟩) 1 1] rfl rfl rfl (by rfl) rfl (fun E W hE hi => ?_)
      refine (impl_areAnyLoans.calls k _ _ l0_0 _ _ [(⟨⟨a1_0, a1_1, a1_2, a1_3⟩, a1_4, a1_5, a1_6⟩ : S71)] true W (Kd.C_below HR0_0.out hi.bel) HC0_0.out (Fl.c_one (hi.blk 0 rfl) (k71_mk _ ⟨⟨a1_0, a1_1, a1_2, a1_3⟩, a1_4, a1_5, a1_6⟩)) (Nat.le_refl _) HA0.out).mono ?_
      rintro e W' ⟨rfl, hb⟩
      refine Fl.keep hi hb ?_
      clear hi hb hE
      simp only [Act.put, Fl.z1, Fl.z2, Fl.z3]
      refine Fl.take (some 17) (v := .bool false) rfl rfl (Or.inl ⟨by rfl, fun _ _ => by rfl⟩) ?_
      simp only [Act.put, Fl.z1, Fl.z2, Fl.z3]
      refine Fl.take (some 18) (v := .bool false) rfl rfl (Or.inl ⟨by rfl, fun _ _ => by rfl⟩) ?_
      simp only [Act.put, Fl.z1, Fl.z2, Fl.z3]
      refine Fl.take (some 19) (v := .int .i64 a2) rfl rfl (Or.inl ⟨by rfl, fun _ _ => by rfl⟩) ?_
      simp only [Act.put, Fl.z1, Fl.z2, Fl.z3]
      refine Fl.take (some 20) (v := .pointer (some ⟨b1, 2, none⟩)) rfl rfl (Or.inl ⟨by rfl, fun _ _ => by first | rfl | (go_simp; done) | (go_simp; simp only [i64_w])⟩) ?_
      simp only [Act.put, Fl.z1, Fl.z2, Fl.z3]
      refine Fl.take (some 21) (v := .int .i64 a1_2) rfl rfl (Or.inl ⟨by rfl, fun W' hW' => by have h_ := hW'.cell 0 rfl 2 rfl; go_simp⟩) ?_
      simp only [Act.put, Fl.z1, Fl.z2, Fl.z3]
      refine Fl.call (some 22) Try.func56 (by kernel_rfl) rfl #[.int .i64 a2, .int .i64 0, .int .i64 a1_2] rfl rfl rfl (by rfl) rfl (fun E W hE hi => ?_)
      refine (impl_within.calls a2 0 a1_2 true W HA1.out).mono ?_
      rintro e W' ⟨rfl, hb⟩
      refine Fl.keep hi hb.below ?_
      clear hi hb hE
      simp only [Act.put, Fl.z1, Fl.z2, Fl.z3]
      refine Fl.take (some 23) (v := .bool false) rfl rfl (Or.inl ⟨by rfl, fun _ _ => by rfl⟩) ?_
      simp only [Act.put, Fl.z1, Fl.z2, Fl.z3]
      refine Fl.take (some 24) (v := .bool false) rfl rfl (Or.inl ⟨by rfl, fun _ _ => by rfl⟩) ?_
      simp only [Act.put, Fl.z1, Fl.z2, Fl.z3]
      refine Fl.stop (fun W hi => ?_)
      replace HI := Lib.hid hi
      clear hi
      go_upto_region 4 with (fail)
      refine Fl.startL [.take 0, .take 1, .take 2, .take 3, .take 4, .take 5, .take 6, .take 7, .take 8, .take 9, .take 10, .take 11, .take 12, .take 13, .take 14, .one 15, .one 16] (by decide) HI.out ?_
      refine Fl.take (some 27) (v := .pointer (some ⟨b1, 0, none⟩)) rfl rfl (Or.inl ⟨by rfl, fun _ _ => by first | rfl | (go_simp; done) | (go_simp; simp only [i64_w])⟩) ?_
      simp only [Act.put, Fl.z1, Fl.z2, Fl.z3]
      refine Fl.take (some 28) (v := .int .i64 a1_0) rfl rfl (Or.inl ⟨by rfl, fun W' hW' => by have h_ := hW'.cell 1 rfl 0 rfl; go_simp⟩) ?_
      simp only [Act.put, Fl.z1, Fl.z2, Fl.z3]
      refine Fl.take (some 29) (v := .pointer (some ⟨b1, 1, none⟩)) rfl rfl (Or.inl ⟨by rfl, fun _ _ => by first | rfl | (go_simp; done) | (go_simp; simp only [i64_w])⟩) ?_
      simp only [Act.put, Fl.z1, Fl.z2, Fl.z3]
      refine Fl.take (some 30) (v := .int .i64 a1_1) rfl rfl (Or.inl ⟨by rfl, fun W' hW' => by have h_ := hW'.cell 1 rfl 1 rfl; go_simp⟩) ?_
      simp only [Act.put, Fl.z1, Fl.z2, Fl.z3]
      refine Fl.take (some 31) (v := .int .i64 a2) rfl rfl (Or.inl ⟨by rfl, fun _ _ => by rfl⟩) ?_
      simp only [Act.put, Fl.z1, Fl.z2, Fl.z3]
      refine Fl.take (some 32) (v := .int .i64 (wrap64 (a1_1 + a2))) rfl rfl (Or.inl ⟨by rfl, fun _ _ => by first | rfl | (go_simp; done) | (go_simp; simp only [i64_w])⟩) ?_
      simp only [Act.put, Fl.z1, Fl.z2, Fl.z3]
      refine Fl.take (some 33) (v := .pointer (some ⟨b1, 2, none⟩)) rfl rfl (Or.inl ⟨by rfl, fun _ _ => by first | rfl | (go_simp; done) | (go_simp; simp only [i64_w])⟩) ?_
      simp only [Act.put, Fl.z1, Fl.z2, Fl.z3]
      refine Fl.take (some 34) (v := .int .i64 a1_2) rfl rfl (Or.inl ⟨by rfl, fun W' hW' => by have h_ := hW'.cell 1 rfl 2 rfl; go_simp⟩) ?_
      simp only [Act.put, Fl.z1, Fl.z2, Fl.z3]
      refine Fl.take (some 35) (v := .int .i64 a2) rfl rfl (Or.inl ⟨by rfl, fun _ _ => by rfl⟩) ?_
      simp only [Act.put, Fl.z1, Fl.z2, Fl.z3]
      refine Fl.take (some 36) (v := .int .i64 (wrap64 (a1_2 - a2))) rfl rfl (Or.inl ⟨by rfl, fun _ _ => by first | rfl | (go_simp; done) | (go_simp; simp only [i64_w])⟩) ?_
      simp only [Act.put, Fl.z1, Fl.z2, Fl.z3]
      refine Fl.take (some 37) (v := .pointer (some ⟨b1, 3, none⟩)) rfl rfl (Or.inl ⟨by rfl, fun _ _ => by first | rfl | (go_simp; done) | (go_simp; simp only [i64_w])⟩) ?_
      simp only [Act.put, Fl.z1, Fl.z2, Fl.z3]
      refine Fl.take (some 38) (v := .int .i64 a1_3) rfl rfl (Or.inl ⟨by rfl, fun W' hW' => by have h_ := hW'.cell 1 rfl 3 rfl; go_simp⟩) ?_
      simp only [Act.put, Fl.z1, Fl.z2, Fl.z3]
      refine Fl.take (some 39) (v := .int .i64 a2) rfl rfl (Or.inl ⟨by rfl, fun _ _ => by rfl⟩) ?_
      simp only [Act.put, Fl.z1, Fl.z2, Fl.z3]
      refine Fl.take (some 40) (v := .int .i64 (wrap64 (a1_3 - a2))) rfl rfl (Or.inl ⟨by rfl, fun _ _ => by first | rfl | (go_simp; done) | (go_simp; simp only [i64_w])⟩) ?_
      simp only [Act.put, Fl.z1, Fl.z2, Fl.z3]
      refine Fl.take (some 41) (v := .agg #[.int .i64 a1_0, .int .i64 (wrap64 (a1_1 + a2)), .int .i64 (wrap64 (a1_2 - a2)), .int .i64 (wrap64 (a1_3 - a2))]) rfl rfl (Or.inl ⟨by rfl, fun _ _ => by first | rfl | (go_simp; done) | (go_simp; simp only [i64_w])⟩) ?_
      simp only [Act.put, Fl.z1, Fl.z2, Fl.z3]
      refine Fl.var (N := 10) (cs := #[.int .i64 0, .int .i64 0, .int .i64 0, .int .i64 0]) (t := 33) ⟨_, rfl, rfl, fun _ => rfl, fun e w => by go_simp⟩ (fun b3 => ?_)
      simp only [Act.put, Fl.z1, Fl.z2, Fl.z3]
      refine Fl.store 0 #[.int .i64 a1_0, .int .i64 (wrap64 (a1_1 + a2)), .int .i64 (wrap64 (a1_2 - a2)), .int .i64 (wrap64 (a1_3 - a2))] rfl rfl rfl rfl _ _ _ rfl rfl rfl (by rfl) rfl (by kernel_rfl) (by simp [Value.oneCell']) ?_
      refine Fl.stop (fun W hi => ?_)
      replace HI := Lib.hid hi
      clear hi
      go_upto_region 5 with (fail)
      replace HI := Lib.hid (Fl.inv_sel HI.out [4, 3, 0, 1, 2, 5, 6] (by decide))
      refine Fl.startF (F := [_, _]) [([],[]),([],[]),([0,1],[0,1]),([],[]),([3],[3]),([],[]),([5],[5]),([],[]),([7],[7]),([2,4,6,8],[2,4,6,8]),([],[]),([],[]),([11],[11]),([],[]),([13],[13]),([],[]),([15],[15]),([10,12,14,16],[10,12,14,16]),([9,2,0,1,2,3,4,5,6,7,8,9],[9]),([17,18,0,1,2,3,4,5,6,7,8,9,10,11,12,13,14,15,16,17,18],[17]),([19,0,1,2,3,4,5,6,7,8,9,10,11,12,13,14,15,16,17,18,19],[])] [] 22 [.take 0, .take 1, .take 3, .take 4, .take 5, .take 6, .take 7, .take 8, .take 10, .take 11, .take 12, .take 13, .take 14, .take 15, .take 16, .take 17, .one 2, .take 9, .one 18, .one 19, .take 20] [] (by kernel_rfl) (by kernel_rfl) (by decide) (by decide) (by kernel_rfl) (by kernel_rfl) Fl.mk0 HI.out ?_
      refine Fl.take (some 42) (v := .agg #[.int .i64 a1_0, .int .i64 a1_1, .int .i64 a1_2, .int .i64 a1_3]) rfl rfl (Fl.ld 2 rfl (by rfl) _ _ rfl rfl Try.underlying33 rfl (by kernel_rfl)) ?_
      simp only [Act.put, Fl.z1, Fl.z2, Fl.z3]
      refine Fl.take (some 43) (v := .int .i64 a2) rfl rfl (Or.inl ⟨by rfl, fun _ _ => by rfl⟩) ?_
      simp only [Act.put, Fl.z1, Fl.z2, Fl.z3]
      refine Fl.take (some 45) (v := .pointer (some ⟨w.heap.size + 1, 4, none⟩)) rfl rfl (Or.inl ⟨by rfl, fun _ _ => by first | rfl | (go_simp; done) | (go_simp; simp only [i64_w])⟩) ?_
      simp only [Act.put, Fl.z1, Fl.z2, Fl.z3]
      refine Fl.take (some 46) (v := .bool a1_4) rfl rfl (Or.inl ⟨by rfl, fun W' hW' => by have h_ := hW'.cell 3 rfl 4 rfl; go_simp⟩) ?_
      simp only [Act.put, Fl.z1, Fl.z2, Fl.z3]
      refine Fl.take (some 47) (v := .pointer (some ⟨w.heap.size + 1, 5, none⟩)) rfl rfl (Or.inl ⟨by rfl, fun _ _ => by first | rfl | (go_simp; done) | (go_simp; simp only [i64_w])⟩) ?_
      simp only [Act.put, Fl.z1, Fl.z2, Fl.z3]
      refine Fl.take (some 48) (v := .int .i64 a1_5) rfl rfl (Or.inl ⟨by rfl, fun W' hW' => by have h_ := hW'.cell 3 rfl 5 rfl; go_simp⟩) ?_
      simp only [Act.put, Fl.z1, Fl.z2, Fl.z3]
      refine Fl.take (some 49) (v := .pointer (some ⟨w.heap.size + 1, 6, none⟩)) rfl rfl (Or.inl ⟨by rfl, fun _ _ => by first | rfl | (go_simp; done) | (go_simp; simp only [i64_w])⟩) ?_
      simp only [Act.put, Fl.z1, Fl.z2, Fl.z3]
      refine Fl.take (some 50) (v := .int .i64 a1_6) rfl rfl (Or.inl ⟨by rfl, fun W' hW' => by have h_ := hW'.cell 3 rfl 6 rfl; go_simp⟩) ?_
      simp only [Act.put, Fl.z1, Fl.z2, Fl.z3]
      refine Fl.take (some 52) (v := .agg #[.int .i64 a1_0, .int .i64 (wrap64 (a1_1 + a2)), .int .i64 (wrap64 (a1_2 - a2)), .int .i64 (wrap64 (a1_3 - a2))]) rfl rfl (Fl.ld 0 rfl (by rfl) _ _ rfl rfl Try.underlying33 rfl (by kernel_rfl)) ?_
      simp only [Act.put, Fl.z1, Fl.z2, Fl.z3]
      refine Fl.take (some 53) (v := .pointer (some ⟨w.heap.size + 1, 4, none⟩)) rfl rfl (Or.inl ⟨by rfl, fun _ _ => by first | rfl | (go_simp; done) | (go_simp; simp only [i64_w])⟩) ?_
      simp only [Act.put, Fl.z1, Fl.z2, Fl.z3]
      refine Fl.take (some 54) (v := .bool a1_4) rfl rfl (Or.inl ⟨by rfl, fun W' hW' => by have h_ := hW'.cell 3 rfl 4 rfl; go_simp⟩) ?_
      simp only [Act.put, Fl.z1, Fl.z2, Fl.z3]
      refine Fl.take (some 55) (v := .pointer (some ⟨w.heap.size + 1, 5, none⟩)) rfl rfl (Or.inl ⟨by rfl, fun _ _ => by first | rfl | (go_simp; done) | (go_simp; simp only [i64_w])⟩) ?_
      simp only [Act.put, Fl.z1, Fl.z2, Fl.z3]
      refine Fl.take (some 56) (v := .int .i64 a1_5) rfl rfl (Or.inl ⟨by rfl, fun W' hW' => by have h_ := hW'.cell 3 rfl 5 rfl; go_simp⟩) ?_
      simp only [Act.put, Fl.z1, Fl.z2, Fl.z3]
      refine Fl.take (some 57) (v := .pointer (some ⟨w.heap.size + 1, 6, none⟩)) rfl rfl (Or.inl ⟨by rfl, fun _ _ => by first | rfl | (go_simp; done) | (go_simp; simp only [i64_w])⟩) ?_
      simp only [Act.put, Fl.z1, Fl.z2, Fl.z3]
      refine Fl.take (some 58) (v := .int .i64 a1_6) rfl rfl (Or.inl ⟨by rfl, fun W' hW' => by have h_ := hW'.cell 3 rfl 6 rfl; go_simp⟩) ?_
      simp only [Act.put, Fl.z1, Fl.z2, Fl.z3]
      refine Fl.take (some 59) (v := .agg #[.int .i64 a1_0, .int .i64 (wrap64 (a1_1 + a2)), .int .i64 (wrap64 (a1_2 - a2)), .int .i64 (wrap64 (a1_3 - a2)), .bool a1_4, .int .i64 a1_5, .int .i64 a1_6]) rfl rfl (Or.inl ⟨by rfl, fun _ _ => by first | rfl | (go_simp; done) | (go_simp; simp only [i64_w])⟩) ?_
      simp only [Act.put, Fl.z1, Fl.z2, Fl.z3]
      refine Fl.call (some 44) Try.func82 (by kernel_rfl) rfl #[.agg #[.int .i64 a1_0, .int .i64 a1_1, .int .i64 a1_2, .int .i64 a1_3], .int .i64 0, .int .i64 a2] rfl rfl rfl (by rfl) rfl (fun E W hE hi => ?_)
      refine (impl_Window_part.calls a1_0 a1_1 a1_2 a1_3 0 a2 y2_0 y2_1 y2_2 y2_3 W HA2.out).mono ?_
      rintro e W' ⟨rfl, hb⟩
      refine Fl.keep hi hb ?_
      clear hi hb hE
      simp only [Act.put, Fl.z1, Fl.z2, Fl.z3]
      refine Fl.take (some 51) (v := .agg #[.int .i64 y2_0, .int .i64 y2_1, .int .i64 y2_2, .int .i64 y2_3, .bool a1_4, .int .i64 a1_5, .int .i64 a1_6]) rfl rfl (Or.inl ⟨by rfl, fun _ _ => by first | rfl | (go_simp; done) | (go_simp; simp only [i64_w])⟩) ?_
      simp only [Act.put, Fl.z1, Fl.z2, Fl.z3]
      refine Fl.store 0 #[.int .i64 y2_0, .int .i64 y2_1, .int .i64 y2_2, .int .i64 y2_3, .bool a1_4, .int .i64 a1_5, .int .i64 a1_6] rfl rfl rfl rfl _ _ _ rfl rfl rfl (by rfl) rfl (by kernel_rfl) (by simp [Value.oneCell']) ?_
      refine Fl.store 1 #[.int .i64 a1_0, .int .i64 (wrap64 (a1_1 + a2)), .int .i64 (wrap64 (a1_2 - a2)), .int .i64 (wrap64 (a1_3 - a2)), .bool a1_4, .int .i64 a1_5, .int .i64 a1_6] rfl rfl rfl rfl _ _ _ rfl rfl rfl (by rfl) rfl (by kernel_rfl) (by simp [Value.oneCell']) ?_
      refine Fl.take (some 8) (v := .bool true) rfl rfl (Or.inl ⟨by rfl, fun _ _ => by rfl⟩) ?_
      simp only [Act.put, Fl.z1, Fl.z2, Fl.z3]
      refine Fl.fin0 ?_
      refine Fl.stopN (fun W hi => ?_)
      replace HI := Lib.hid hi
      clear hi
      go_wp2
      exact bodyPost_ret (v := .tuple #[.agg #[.int .i64 y2_0, .int .i64 y2_1, .int .i64 y2_2, .int .i64 y2_3, .bool a1_4, .int .i64 a1_5, .int .i64 a1_6], .agg #[.int .i64 a1_0, .int .i64 (wrap64 (a1_1 + a2)), .int .i64 (wrap64 (a1_2 - a2)), .int .i64 (wrap64 (a1_3 - a2)), .bool a1_4, .int .i64 a1_5, .int .i64 a1_6], .bool true]) (results_list (rs := [.cell 6 71, .cell 7 71, .tmp 8]) rfl (by simp) (.cell _ _ _ (0, 0) _ rfl (HI.out.blk 0 rfl) Try.underlying71 rfl (by kernel_rfl) (.cell _ _ _ (0, 0) _ rfl (HI.out.blk 1 rfl) Try.underlying71 rfl (by kernel_rfl) (.tmp .nil)))) rfl ⟨rfl, HI.out.bel⟩
    | false =>
      rw [if_neg (by decide)] at h
      simp only [Option.some.injEq, Prod.mk.injEq] at h
      obtain ⟨rfl, rfl, rfl, rfl, rfl, rfl, rfl, rfl, rfl, rfl, rfl, rfl, rfl, rfl, rfl⟩ := h
      go_enter Try.func47, Try.ntmps47
      go_upto_region 1 with (fail)
      rw [← hW]
      clear hW
      refine Fl.startL [.take 0, .take 1, .one 2, .one 3] (by decide) HI.out ?_
      refine Fl.take (some 11) (v := .pointer (some ⟨w.heap.size + 1, 0, none⟩)) rfl rfl (Or.inl ⟨by rfl, fun _ _ => by first | rfl | (go_simp; done) | (go_simp; simp only [i64_w])⟩) ?_
      simp only [Act.put, Fl.z1, Fl.z2, Fl.z3]
      refine Fl.take (some 12) (v := .agg #[.int .i64 a1_0, .int .i64 a1_1, .int .i64 a1_2, .int .i64 a1_3]) rfl rfl (Fl.ldP 2 0 #[.int .i64 a1_0, .int .i64 a1_1, .int .i64 a1_2, .int .i64 a1_3] rfl (by rfl) _ _ rfl rfl rfl Try.underlying33 rfl (by kernel_rfl)) ?_
      simp only [Act.put, Fl.z1, Fl.z2, Fl.z3]
      refine Fl.var (N := 9) (cs := #[.int .i64 0, .int .i64 0, .int .i64 0, .int .i64 0]) (t := 33) ⟨_, rfl, rfl, fun _ => rfl, fun e w => by go_simp⟩ (fun b1 => ?_)
      simp only [Act.put, Fl.z1, Fl.z2, Fl.z3]
      refine Fl.store 0 #[.int .i64 a1_0, .int .i64 a1_1, .int .i64 a1_2, .int .i64 a1_3] rfl rfl rfl rfl _ _ _ rfl rfl rfl (by rfl) rfl (by kernel_rfl) (by simp [Value.oneCell']) ?_
      refine Fl.stop (fun W hi => ?_)
      replace HI := Lib.hid hi
      clear hi
      go_upto_region 2 with (fail)
      refine Fl.startL [.take 0, .take 1, .one 2, .one 3, .take 4, .take 5, .take 6, .take 7, .take 8, .one 9, .take 10, .take 11] (by decide) HI.out ?_
      refine Fl.take (some 13) (v := .agg #[.slice A0_0 l0_0.length c0_0]) rfl rfl (Fl.ld 4 rfl (by rfl) _ _ rfl rfl Try.underlying31 rfl (by kernel_rfl)) ?_
      simp only [Act.put, Fl.z1, Fl.z2, Fl.z3]
      refine Fl.take (some 14) (v := .agg #[.int .i64 a1_0, .int .i64 a1_1, .int .i64 a1_2, .int .i64 a1_3, .bool a1_4, .int .i64 a1_5, .int .i64 a1_6]) rfl rfl (Fl.ld 3 rfl (by rfl) _ _ rfl rfl Try.underlying71 rfl (by kernel_rfl)) ?_
      simp only [Act.put, Fl.z1, Fl.z2, Fl.z3]
      refine Fl.lit (N := 15) (cs := #[.int .i64 a1_0, .int .i64 a1_1, .int .i64 a1_2, .int .i64 a1_3, .bool a1_4, .int .i64 a1_5, .int .i64 a1_6]) (t := 71) (n := 1) rfl rfl (by rfl) (fun w => by go_simp) (fun b2 => ?_)
      simp only [Act.put, Fl.z1, Fl.z2, Fl.z3]
      refine Fl.call (some 16) Try.func81 (by kernel_rfl) rfl #[.agg #[.slice A0_0 l0_0.length c0_0], .slice (some ⟨b2, 0, none⟩) 1 1] rfl rfl rfl (by rfl) rfl (fun E W hE hi => ?_)
      refine (impl_areAnyLoans.calls k _ _ l0_0 _ _ [(⟨⟨a1_0, a1_1, a1_2, a1_3⟩, a1_4, a1_5, a1_6⟩ : S71)] true W (Kd.C_below HR0_0.out hi.bel) HC0_0.out (Fl.c_one (hi.blk 0 rfl) (k71_mk _ ⟨⟨a1_0, a1_1, a1_2, a1_3⟩, a1_4, a1_5, a1_6⟩)) (Nat.le_refl _) HA0.out).mono ?_
      rintro e W' ⟨rfl, hb⟩
      refine Fl.keep hi hb ?_
      clear hi hb hE
      simp only [Act.put, Fl.z1, Fl.z2, Fl.z3]
      refine Fl.take (some 17) (v := .bool false) rfl rfl (Or.inl ⟨by rfl, fun _ _ => by rfl⟩) ?_
      simp only [Act.put, Fl.z1, Fl.z2, Fl.z3]
      refine Fl.take (some 18) (v := .bool false) rfl rfl (Or.inl ⟨by rfl, fun _ _ => by rfl⟩) ?_
      simp only [Act.put, Fl.z1, Fl.z2, Fl.z3]
      refine Fl.take (some 19) (v := .int .i64 a2) rfl rfl (Or.inl ⟨by rfl, fun _ _ => by rfl⟩) ?_
      simp only [Act.put, Fl.z1, Fl.z2, Fl.z3]
      refine Fl.take (some 20) (v := .pointer (some ⟨b1, 2, none⟩)) rfl rfl (Or.inl ⟨by rfl, fun _ _ => by first | rfl | (go_simp; done) | (go_simp; simp only [i64_w])⟩) ?_
      simp only [Act.put, Fl.z1, Fl.z2, Fl.z3]
      refine Fl.take (some 21) (v := .int .i64 a1_2) rfl rfl (Or.inl ⟨by rfl, fun W' hW' => by have h_ := hW'.cell 0 rfl 2 rfl; go_simp⟩) ?_
      simp only [Act.put, Fl.z1, Fl.z2, Fl.z3]
      refine Fl.call (some 22) Try.func56 (by kernel_rfl) rfl #[.int .i64 a2, .int .i64 0, .int .i64 a1_2] rfl rfl rfl (by rfl) rfl (fun E W hE hi => ?_)
      refine (impl_within.calls a2 0 a1_2 false W HA1.out).mono ?_
      rintro e W' ⟨rfl, hb⟩
      refine Fl.keep hi hb.below ?_
      clear hi hb hE
      simp only [Act.put, Fl.z1, Fl.z2, Fl.z3]
      refine Fl.take (some 23) (v := .bool true) rfl rfl (Or.inl ⟨by rfl, fun _ _ => by rfl⟩) ?_
      simp only [Act.put, Fl.z1, Fl.z2, Fl.z3]
      refine Fl.take (some 24) (v := .bool true) rfl rfl (Or.inl ⟨by rfl, fun _ _ => by rfl⟩) ?_
      simp only [Act.put, Fl.z1, Fl.z2, Fl.z3]
      refine Fl.stop (fun W hi => ?_)
      replace HI := Lib.hid hi
      clear hi
      go_upto_region 3 with (fail)
      refine Fl.startW [.take 0, .take 1, .one 2, .one 3, .take 4] (by decide) HI.out ?_
      refine Fl.take (some 25) (v := .agg #[.int .i64 0, .int .i64 0, .int .i64 0, .int .i64 0, .bool false, .int .i64 0, .int .i64 0]) rfl rfl (Or.inl ⟨by rfl, fun _ _ => by first | rfl | (go_simp; done) | (go_simp; simp only [i64_w])⟩) ?_
      simp only [Act.put, Fl.z1, Fl.z2, Fl.z3]
      refine Fl.take (some 26) (v := .agg #[.int .i64 0, .int .i64 0, .int .i64 0, .int .i64 0, .bool false, .int .i64 0, .int .i64 0]) rfl rfl (Or.inl ⟨by rfl, fun _ _ => by first | rfl | (go_simp; done) | (go_simp; simp only [i64_w])⟩) ?_
      simp only [Act.put, Fl.z1, Fl.z2, Fl.z3]
      refine Fl.store 3 #[.int .i64 0, .int .i64 0, .int .i64 0, .int .i64 0, .bool false, .int .i64 0, .int .i64 0] rfl rfl rfl rfl _ _ _ rfl rfl rfl (by rfl) rfl (by kernel_rfl) (by simp [Value.oneCell']) ?_
      refine Fl.store 2 #[.int .i64 0, .int .i64 0, .int .i64 0, .int .i64 0, .bool false, .int .i64 0, .int .i64 0] rfl rfl rfl rfl _ _ _ rfl rfl rfl (by rfl) rfl (by kernel_rfl) (by simp [Value.oneCell']) ?_
      refine Fl.take (some 8) (v := .bool false) rfl rfl (Or.inl ⟨by rfl, fun _ _ => by rfl⟩) ?_
      simp only [Act.put, Fl.z1, Fl.z2, Fl.z3]
      refine Fl.stopW (fun W hi => ?_)
      replace HI := Lib.hid hi
      clear hi
      go_wp2
      exact bodyPost_ret (v := .tuple #[.agg #[.int .i64 0, .int .i64 0, .int .i64 0, .int .i64 0, .bool false, .int .i64 0, .int .i64 0], .agg #[.int .i64 0, .int .i64 0, .int .i64 0, .int .i64 0, .bool false, .int .i64 0, .int .i64 0], .bool false]) (results_list (rs := [.cell 6 71, .cell 7 71, .tmp 8]) rfl (by simp) (.cell _ _ _ (0, 0) _ rfl (HI.out.blk 3 rfl) Try.underlying71 rfl (by kernel_rfl) (.cell _ _ _ (0, 0) _ rfl (HI.out.blk 2 rfl) Try.underlying71 rfl (by kernel_rfl) (.tmp .nil)))) rfl ⟨rfl, HI.out.bel⟩
  | false =>
    rw [if_neg (by decide)] at h
    simp only [Option.some.injEq, Prod.mk.injEq] at h
    obtain ⟨rfl, rfl, rfl, rfl, rfl, rfl, rfl, rfl, rfl, rfl, rfl, rfl, rfl, rfl, rfl⟩ := h
    go_enter Try.func47, Try.ntmps47
    go_upto_region 1 with (fail)
    rw [← hW]
    clear hW
    refine Fl.startL [.take 0, .take 1, .one 2, .one 3] (by decide) HI.out ?_
    refine Fl.take (some 11) (v := .pointer (some ⟨w.heap.size + 1, 0, none⟩)) rfl rfl (Or.inl ⟨by rfl, fun _ _ => by first | rfl | (go_simp; done) | (go_simp; simp only [i64_w])⟩) ?_
    simp only [Act.put, Fl.z1, Fl.z2, Fl.z3]
    refine Fl.take (some 12) (v := .agg #[.int .i64 a1_0, .int .i64 a1_1, .int .i64 a1_2, .int .i64 a1_3]) rfl rfl (Fl.ldP 2 0 #[.int .i64 a1_0, .int .i64 a1_1, .int .i64 a1_2, .int .i64 a1_3] rfl (by rfl) _ _ rfl rfl rfl Try.underlying33 rfl (by kernel_rfl)) ?_
    simp only [Act.put, Fl.z1, Fl.z2, Fl.z3]
    refine Fl.var (N := 9) (cs := #[.int .i64 0, .int .i64 0, .int .i64 0, .int .i64 0]) (t := 33) ⟨_, rfl, rfl, fun _ => rfl, fun e w => by go_simp⟩ (fun b1 => ?_)
    simp only [Act.put, Fl.z1, Fl.z2, Fl.z3]
    refine Fl.store 0 #[.int .i64 a1_0, .int .i64 a1_1, .int .i64 a1_2, .int .i64 a1_3] rfl rfl rfl rfl _ _ _ rfl rfl rfl (by rfl) rfl (by kernel_rfl) (by simp [Value.oneCell']) ?_
    refine Fl.stop (fun W hi => ?_)
    replace HI := Lib.hid hi
    clear hi
    go_upto_region 2 with (fail)
    refine Fl.startL [.take 0, .take 1, .one 2, .one 3, .take 4, .take 5, .take 6, .take 7, .take 8, .take 9, .take 10, .take 11] (by decide) HI.out ?_
    refine Fl.take (some 13) (v := .agg #[.slice A0_0 l0_0.length c0_0]) rfl rfl (Fl.ld 4 rfl (by rfl) _ _ rfl rfl Try.underlying31 rfl (by kernel_rfl)) ?_
    simp only [Act.put, Fl.z1, Fl.z2, Fl.z3]
    refine Fl.take (some 14) (v := .agg #[.int .i64 a1_0, .int .i64 a1_1, .int .i64 a1_2, .int .i64 a1_3, .bool a1_4, .int .i64 a1_5, .int .i64 a1_6]) rfl rfl (Fl.ld 3 rfl (by rfl) _ _ rfl rfl Try.underlying71 rfl (by kernel_rfl)) ?_
    simp only [Act.put, Fl.z1, Fl.z2, Fl.z3]
    refine Fl.lit (N := 15) (cs := #[.int .i64 a1_0, .int .i64 a1_1, .int .i64 a1_2, .int .i64 a1_3, .bool a1_4, .int .i64 a1_5, .int .i64 a1_6]) (t := 71) (n := 1) rfl rfl (by rfl) (fun w => by go_simp) (fun b2 => ?_)
    simp only [Act.put, Fl.z1, Fl.z2, Fl.z3]
    refine Fl.call (some 16) Try.func81 (by kernel_rfl) rfl #[.agg #[.slice A0_0 l0_0.length c0_0], .slice (some ⟨b2, 0, none⟩) 1 1] rfl rfl rfl (by rfl) rfl (fun E W hE hi => ?_)
    refine (impl_areAnyLoans.calls k _ _ l0_0 _ _ [(⟨⟨a1_0, a1_1, a1_2, a1_3⟩, a1_4, a1_5, a1_6⟩ : S71)] false W (Kd.C_below HR0_0.out hi.bel) HC0_0.out (Fl.c_one (hi.blk 0 rfl) (k71_mk _ ⟨⟨a1_0, a1_1, a1_2, a1_3⟩, a1_4, a1_5, a1_6⟩)) (Nat.le_refl _) HA0.out).mono ?_
    rintro e W' ⟨rfl, hb⟩
    refine Fl.keep hi hb ?_
    clear hi hb hE
    simp only [Act.put, Fl.z1, Fl.z2, Fl.z3]
    refine Fl.take (some 17) (v := .bool true) rfl rfl (Or.inl ⟨by rfl, fun _ _ => by rfl⟩) ?_
    simp only [Act.put, Fl.z1, Fl.z2, Fl.z3]
    refine Fl.take (some 18) (v := .bool true) rfl rfl (Or.inl ⟨by rfl, fun _ _ => by rfl⟩) ?_
    simp only [Act.put, Fl.z1, Fl.z2, Fl.z3]
    refine Fl.take (some 19) (v := undef) rfl rfl (Or.inr ⟨by rfl, rfl⟩) ?_
    simp only [Act.put, Fl.z1, Fl.z2, Fl.z3]
    refine Fl.take (some 20) (v := undef) rfl rfl (Or.inr ⟨by rfl, rfl⟩) ?_
    simp only [Act.put, Fl.z1, Fl.z2, Fl.z3]
    refine Fl.take (some 21) (v := undef) rfl rfl (Or.inr ⟨by rfl, rfl⟩) ?_
    simp only [Act.put, Fl.z1, Fl.z2, Fl.z3]
    refine Fl.take (some 22) (v := undef) rfl rfl (Or.inr ⟨by rfl, rfl⟩) ?_
    simp only [Act.put, Fl.z1, Fl.z2, Fl.z3]
    refine Fl.take (some 23) (v := undef) rfl rfl (Or.inr ⟨by rfl, rfl⟩) ?_
    simp only [Act.put, Fl.z1, Fl.z2, Fl.z3]
    refine Fl.take (some 24) (v := .bool true) rfl rfl (Or.inl ⟨by rfl, fun _ _ => by rfl⟩) ?_
    simp only [Act.put, Fl.z1, Fl.z2, Fl.z3]
    refine Fl.stop (fun W hi => ?_)
    replace HI := Lib.hid hi
    clear hi
    go_upto_region 3 with (fail)
    refine Fl.startW [.take 0, .take 1, .one 2, .one 3, .take 4] (by decide) HI.out ?_
    refine Fl.take (some 25) (v := .agg #[.int .i64 0, .int .i64 0, .int .i64 0, .int .i64 0, .bool false, .int .i64 0, .int .i64 0]) rfl rfl (Or.inl ⟨by rfl, fun _ _ => by first | rfl | (go_simp; done) | (go_simp; simp only [i64_w])⟩) ?_
    simp only [Act.put, Fl.z1, Fl.z2, Fl.z3]
    refine Fl.take (some 26) (v := .agg #[.int .i64 0, .int .i64 0, .int .i64 0, .int .i64 0, .bool false, .int .i64 0, .int .i64 0]) rfl rfl (Or.inl ⟨by rfl, fun _ _ => by first | rfl | (go_simp; done) | (go_simp; simp only [i64_w])⟩) ?_
    simp only [Act.put, Fl.z1, Fl.z2, Fl.z3]
    refine Fl.store 3 #[.int .i64 0, .int .i64 0, .int .i64 0, .int .i64 0, .bool false, .int .i64 0, .int .i64 0] rfl rfl rfl rfl _ _ _ rfl rfl rfl (by rfl) rfl (by kernel_rfl) (by simp [Value.oneCell']) ?_
    refine Fl.store 2 #[.int .i64 0, .int .i64 0, .int .i64 0, .int .i64 0, .bool false, .int .i64 0, .int .i64 0] rfl rfl rfl rfl _ _ _ rfl rfl rfl (by rfl) rfl (by kernel_rfl) (by simp [Value.oneCell']) ?_
    refine Fl.take (some 8) (v := .bool false) rfl rfl (Or.inl ⟨by rfl, fun _ _ => by rfl⟩) ?_
    simp only [Act.put, Fl.z1, Fl.z2, Fl.z3]
    refine Fl.stopW (fun W hi => ?_)
    replace HI := Lib.hid hi
    clear hi
    go_wp2
    exact bodyPost_ret (v := .tuple #[.agg #[.int .i64 0, .int .i64 0, .int .i64 0, .int .i64 0, .bool false, .int .i64 0, .int .i64 0], .agg #[.int .i64 0, .int .i64 0, .int .i64 0, .int .i64 0, .bool false, .int .i64 0, .int .i64 0], .bool false]) (results_list (rs := [.cell 6 71, .cell 7 71, .tmp 8]) rfl (by simp) (.cell _ _ _ (0, 0) _ rfl (HI.out.blk 3 rfl) Try.underlying71 rfl (by kernel_rfl) (.cell _ _ _ (0, 0) _ rfl (HI.out.blk 2 rfl) Try.underlying71 rfl (by kernel_rfl) (.tmp .nil)))) rfl ⟨rfl, HI.out.bel⟩

open Go.Proofs.Ytldkbeccpheckaa.Cp
/-! ### laws_eqWindow: function 27 -/
def laws_eqWindow.f (a0_0 : Int) (a0_1 : Int) (a0_2 : Int) (a0_3 : Int) (a1_0 : Int) (a1_1 : Int) (a1_2 : Int) (a1_3 : Int) : Option (Bool) := if a0_0 = a1_0 then (if a0_1 = a1_1 then (if a0_2 = a1_2 then (if a0_3 = a1_3 then (some true) else (some false)) else (some false)) else (some false)) else (some false)
set_option maxHeartbeats 8000000 in
set_option maxRecDepth 100000 in
theorem laws_eqWindow.calls (a0_0 : Int) (a0_1 : Int) (a0_2 : Int) (a0_3 : Int) (a1_0 : Int) (a1_1 : Int) (a1_2 : Int) (a1_3 : Int) (r : Bool) (w : World) (h : laws_eqWindow.f a0_0 a0_1 a0_2 a0_3 a1_0 a1_1 a1_2 a1_3 = some r) :
  Calls Try.prog 27 #[.agg #[.int .i64 a0_0, .int .i64 a0_1, .int .i64 a0_2, .int .i64 a0_3], .agg #[.int .i64 a1_0, .int .i64 a1_1, .int .i64 a1_2, .int .i64 a1_3]] w fun e w' => e = .returned (.bool r) ∧ Below w.heap.size w w' := by
 have hu33 := Try.underlying33
 have HB := Aside0.mk (Below.refl w.heap.size w)
 have H : (if a0_0 = a1_0 then (if a0_1 = a1_1 then (if a0_2 = a1_2 then (if a0_3 = a1_3 then (some true) else (some false)) else (some false)) else (some false)) else (some false)) = some r := h
 clear h
 by_cases c3 : a0_0 = a1_0
 ·rw [if_pos c3] at H
  have c3b0 : (a0_0 == a1_0) = true := beq_iff_eq.mpr c3
  have c3b1 : (a0_0 != a1_0) = false := bne_eq_false_iff_eq.mpr c3
  clear c3
  by_cases c4 : a0_1 = a1_1
  ·rw [if_pos c4] at H
   have c4b0 : (a0_1 == a1_1) = true := beq_iff_eq.mpr c4
   have c4b1 : (a0_1 != a1_1) = false := bne_eq_false_iff_eq.mpr c4
   clear c4
   by_cases c5 : a0_2 = a1_2
   ·rw [if_pos c5] at H
    have c5b0 : (a0_2 == a1_2) = true := beq_iff_eq.mpr c5
    have c5b1 : (a0_2 != a1_2) = false := bne_eq_false_iff_eq.mpr c5
    clear c5
    by_cases c6 : a0_3 = a1_3
    ·rw [if_pos c6] at H
     have c6b0 : (a0_3 == a1_3) = true := beq_iff_eq.mpr c6
     have c6b1 : (a0_3 != a1_3) = false := bne_eq_false_iff_eq.mpr c6
     clear c6
     obtain rfl := Option.some.inj H
     go_enter Try.func27, Try.ntmps27
     go_wp2_with (first | ((with_reducible refine gate_dst (N := 2) rfl ?_); refine box_event ?hg (N := 2) ?hd (cs := #[.int .i64 a0_0, .int .i64 a0_1, .int .i64 a0_2, .int .i64 a0_3]) (t := 33) ?hr ?_; (case hd => rfl); (case hg => rfl); (case hr => first | (go_simp; done) | (go_simp; rfl)); intro gb177 hg w7 hbox hb; have BK177 := Aside0.mk (hbox); have GW177 := zge HB hg; have GE177 := zge HB hg; replace HB := zhs HB hb; clear hb hbox hg) | ((with_reducible refine gate_dst (N := 3) rfl ?_); refine box_event ?hg (N := 3) ?hd (cs := #[.int .i64 a1_0, .int .i64 a1_1, .int .i64 a1_2, .int .i64 a1_3]) (t := 33) ?hr ?_; (case hd => rfl); (case hg => rfl); (case hr => first | (go_simp; done) | (go_simp; rfl)); intro gb178 hg w8 hbox hb; have BK178 := Aside0.mk (hbox); have GW178 := zge HB hg; have GE178 := zge HB hg; have NB177_178 := znl BK177 hg; have NB178_177 := znr BK177 hg; replace BK177 := zb0 BK177 hb; replace HB := zhs HB hb; clear hb hbox hg; have hnb9 := NB177_178.out; have hnc9 := NB178_177.out; have hcz10_0 := zc0 BK177 0 rfl; have hcz10_1 := zc0 BK177 1 rfl; have hcz10_2 := zc0 BK177 2 rfl; have hcz10_3 := zc0 BK177 3 rfl; have hfz10_0 := blk_frozen BK177.out 0; have hfz10_1 := blk_frozen BK177.out 1; have hfz10_2 := blk_frozen BK177.out 2; have hfz10_3 := blk_frozen BK177.out 3; have hcz11_0 := zc0 BK178 0 rfl; have hcz11_1 := zc0 BK178 1 rfl; have hcz11_2 := zc0 BK178 2 rfl; have hcz11_3 := zc0 BK178 3 rfl; have hfz11_0 := blk_frozen BK178.out 0; have hfz11_1 := blk_frozen BK178.out 1; have hfz11_2 := blk_frozen BK178.out 2; have hfz11_3 := blk_frozen BK178.out 3))
     go_ret
     exact ⟨by first | rfl | (simp <;> rfl) | (simp [*] <;> rfl), by repeat (first | exact zh0 HB | refine below_set ?_ GE177.out | refine below_set ?_ GE178.out)⟩
    ·rw [if_neg c6] at H
     have c6b0 : (a0_3 == a1_3) = false := beq_eq_false_iff_ne.mpr c6
     have c6b1 : (a0_3 != a1_3) = true := bne_iff_ne.mpr c6
     obtain rfl := Option.some.inj H
     go_enter Try.func27, Try.ntmps27
     go_wp2_with (first | ((with_reducible refine gate_dst (N := 2) rfl ?_); refine box_event ?hg (N := 2) ?hd (cs := #[.int .i64 a0_0, .int .i64 a0_1, .int .i64 a0_2, .int .i64 a0_3]) (t := 33) ?hr ?_; (case hd => rfl); (case hg => rfl); (case hr => first | (go_simp; done) | (go_simp; rfl)); intro gb177 hg w12 hbox hb; have BK177 := Aside0.mk (hbox); have GW177 := zge HB hg; have GE177 := zge HB hg; replace HB := zhs HB hb; clear hb hbox hg) | ((with_reducible refine gate_dst (N := 3) rfl ?_); refine box_event ?hg (N := 3) ?hd (cs := #[.int .i64 a1_0, .int .i64 a1_1, .int .i64 a1_2, .int .i64 a1_3]) (t := 33) ?hr ?_; (case hd => rfl); (case hg => rfl); (case hr => first | (go_simp; done) | (go_simp; rfl)); intro gb178 hg w13 hbox hb; have BK178 := Aside0.mk (hbox); have GW178 := zge HB hg; have GE178 := zge HB hg; have NB177_178 := znl BK177 hg; have NB178_177 := znr BK177 hg; replace BK177 := zb0 BK177 hb; replace HB := zhs HB hb; clear hb hbox hg; have hnb14 := NB177_178.out; have hnc14 := NB178_177.out; have hcz15_0 := zc0 BK177 0 rfl; have hcz15_1 := zc0 BK177 1 rfl; have hcz15_2 := zc0 BK177 2 rfl; have hcz15_3 := zc0 BK177 3 rfl; have hfz15_0 := blk_frozen BK177.out 0; have hfz15_1 := blk_frozen BK177.out 1; have hfz15_2 := blk_frozen BK177.out 2; have hfz15_3 := blk_frozen BK177.out 3; have hcz16_0 := zc0 BK178 0 rfl; have hcz16_1 := zc0 BK178 1 rfl; have hcz16_2 := zc0 BK178 2 rfl; have hcz16_3 := zc0 BK178 3 rfl; have hfz16_0 := blk_frozen BK178.out 0; have hfz16_1 := blk_frozen BK178.out 1; have hfz16_2 := blk_frozen BK178.out 2; have hfz16_3 := blk_frozen BK178.out 3))
     go_ret
     exact ⟨by first | rfl | (simp <;> rfl) | (simp [*] <;> rfl), by repeat (first | exact zh0 HB | refine below_set ?_ GE177.out | refine below_set ?_ GE178.out)⟩
   ·rw [if_neg c5] at H
    have c5b0 : (a0_2 == a1_2) = false := beq_eq_false_iff_ne.mpr c5
    have c5b1 : (a0_2 != a1_2) = true := bne_iff_ne.mpr c5
    obtain rfl := Option.some.inj H
    go_enter Try.func27, Try.ntmps27
    go_wp2_with (first | ((with_reducible refine gate_dst (N := 2) rfl ?_); refine box_event ?hg (N := 2) ?hd (cs := #[.int .i64 a0_0, .int .i64 a0_1, .int .i64 a0_2, .int .i64 a0_3]) (t := 33) ?hr ?_; (case hd => rfl); (case hg => rfl); (case hr => first | (go_simp; done) | (go_simp; rfl)); intro gb177 hg w17 hbox hb; have BK177 := Aside0.mk (hbox); have GW177 := zge HB hg; have GE177 := zge HB hg; replace HB := zhs HB hb; clear hb hbox hg) | ((with_reducible refine gate_dst (N := 3) rfl ?_); refine box_event ?hg (N := 3) ?hd (cs := #[.int .i64 a1_0, .int .i64 a1_1, .int .i64 a1_2, .int .i64 a1_3]) (t := 33) ?hr ?_; (case hd => rfl); (case hg => rfl); (case hr => first | (go_simp; done) | (go_simp; rfl)); intro gb178 hg w18 hbox hb; have BK178 := Aside0.mk (hbox); have GW178 := zge HB hg; have GE178 := zge HB hg; have NB177_178 := znl BK177 hg; have NB178_177 := znr BK177 hg; replace BK177 := zb0 BK177 hb; replace HB := zhs HB hb; clear hb hbox hg; have hnb19 := NB177_178.out; have hnc19 := NB178_177.out; have hcz20_0 := zc0 BK177 0 rfl; have hcz20_1 := zc0 BK177 1 rfl; have hcz20_2 := zc0 BK177 2 rfl; have hcz20_3 := zc0 BK177 3 rfl; have hfz20_0 := blk_frozen BK177.out 0; have hfz20_1 := blk_frozen BK177.out 1; have hfz20_2 := blk_frozen BK177.out 2; have hfz20_3 := blk_frozen BK177.out 3; have hcz21_0 := zc0 BK178 0 rfl; have hcz21_1 := zc0 BK178 1 rfl; have hcz21_2 := zc0 BK178 2 rfl; have hcz21_3 := zc0 BK178 3 rfl; have hfz21_0 := blk_frozen BK178.out 0; have hfz21_1 := blk_frozen BK178.out 1; have hfz21_2 := blk_frozen BK178.out 2; have hfz21_3 := blk_frozen BK178.out 3))
    go_ret
    exact ⟨by first | rfl | (simp <;> rfl) | (simp [*] <;> rfl), by repeat (first | exact zh0 HB | refine below_set ?_ GE177.out | refine below_set ?_ GE178.out)⟩
  ·rw [if_neg c4] at H
   have c4b0 : (a0_1 == a1_1) = false := beq_eq_false_iff_ne.mpr c4
   have c4b1 : (a0_1 != a1_1) = true := bne_iff_ne.mpr c4
   obtain rfl := Option.some.inj H
   go_enter Try.func27, Try.ntmps27
   go_wp2_with (first | ((with_reducible refine gate_dst (N := 2) rfl ?_); refine box_event ?hg (N := 2) ?hd (cs := #[.int .i64 a0_0, .int .i64 a0_1, .int .i64 a0_2, .int .i64 a0_3]) (t := 33) ?hr ?_; (case hd => rfl); (case hg => rfl); (case hr => first | (go_simp; done) | (go_simp; rfl)); intro gb177 hg w22 hbox hb; have BK177 := Aside0.mk (hbox); have GW177 := zge HB hg; have GE177 := zge HB hg; replace HB := zhs HB hb; clear hb hbox hg) | ((with_reducible refine gate_dst (N := 3) rfl ?_); refine box_event ?hg (N := 3) ?hd (cs := #[.int .i64 a1_0, .int .i64 a1_1, .int .i64 a1_2, .int .i64 a1_3]) (t := 33) ?hr ?_; (case hd => rfl); (case hg => rfl); (case hr => first | (go_simp; done) | (go_simp; rfl)); intro gb178 hg w23 hbox hb; have BK178 := Aside0.mk (hbox); have GW178 := zge HB hg; have GE178 := zge HB hg; have NB177_178 := znl BK177 hg; have NB178_177 := znr BK177 hg; replace BK177 := zb0 BK177 hb; replace HB := zhs HB hb; clear hb hbox hg; have hnb24 := NB177_178.out; have hnc24 := NB178_177.out; have hcz25_0 := zc0 BK177 0 rfl; have hcz25_1 := zc0 BK177 1 rfl; have hcz25_2 := zc0 BK177 2 rfl; have hcz25_3 := zc0 BK177 3 rfl; have hfz25_0 := blk_frozen BK177.out 0; have hfz25_1 := blk_frozen BK177.out 1; have hfz25_2 := blk_frozen BK177.out 2; have hfz25_3 := blk_frozen BK177.out 3; have hcz26_0 := zc0 BK178 0 rfl; have hcz26_1 := zc0 BK178 1 rfl; have hcz26_2 := zc0 BK178 2 rfl; have hcz26_3 := zc0 BK178 3 rfl; have hfz26_0 := blk_frozen BK178.out 0; have hfz26_1 := blk_frozen BK178.out 1; have hfz26_2 := blk_frozen BK178.out 2; have hfz26_3 := blk_frozen BK178.out 3))
   go_ret
   exact ⟨by first | rfl | (simp <;> rfl) | (simp [*] <;> rfl), by repeat (first | exact zh0 HB | refine below_set ?_ GE177.out | refine below_set ?_ GE178.out)⟩
 ·rw [if_neg c3] at H
  have c3b0 : (a0_0 == a1_0) = false := beq_eq_false_iff_ne.mpr c3
  have c3b1 : (a0_0 != a1_0) = true := bne_iff_ne.mpr c3
  obtain rfl := Option.some.inj H
  go_enter Try.func27, Try.ntmps27
  go_wp2_with (first | ((with_reducible refine gate_dst (N := 2) rfl ?_); refine box_event ?hg (N := 2) ?hd (cs := #[.int .i64 a0_0, .int .i64 a0_1, .int .i64 a0_2, .int .i64 a0_3]) (t := 33) ?hr ?_; (case hd => rfl); (case hg => rfl); (case hr => first | (go_simp; done) | (go_simp; rfl)); intro gb177 hg w27 hbox hb; have BK177 := Aside0.mk (hbox); have GW177 := zge HB hg; have GE177 := zge HB hg; replace HB := zhs HB hb; clear hb hbox hg) | ((with_reducible refine gate_dst (N := 3) rfl ?_); refine box_event ?hg (N := 3) ?hd (cs := #[.int .i64 a1_0, .int .i64 a1_1, .int .i64 a1_2, .int .i64 a1_3]) (t := 33) ?hr ?_; (case hd => rfl); (case hg => rfl); (case hr => first | (go_simp; done) | (go_simp; rfl)); intro gb178 hg w28 hbox hb; have BK178 := Aside0.mk (hbox); have GW178 := zge HB hg; have GE178 := zge HB hg; have NB177_178 := znl BK177 hg; have NB178_177 := znr BK177 hg; replace BK177 := zb0 BK177 hb; replace HB := zhs HB hb; clear hb hbox hg; have hnb29 := NB177_178.out; have hnc29 := NB178_177.out; have hcz30_0 := zc0 BK177 0 rfl; have hcz30_1 := zc0 BK177 1 rfl; have hcz30_2 := zc0 BK177 2 rfl; have hcz30_3 := zc0 BK177 3 rfl; have hfz30_0 := blk_frozen BK177.out 0; have hfz30_1 := blk_frozen BK177.out 1; have hfz30_2 := blk_frozen BK177.out 2; have hfz30_3 := blk_frozen BK177.out 3; have hcz31_0 := zc0 BK178 0 rfl; have hcz31_1 := zc0 BK178 1 rfl; have hcz31_2 := zc0 BK178 2 rfl; have hcz31_3 := zc0 BK178 3 rfl; have hfz31_0 := blk_frozen BK178.out 0; have hfz31_1 := blk_frozen BK178.out 1; have hfz31_2 := blk_frozen BK178.out 2; have hfz31_3 := blk_frozen BK178.out 3))
  go_ret
  exact ⟨by first | rfl | (simp <;> rfl) | (simp [*] <;> rfl), by repeat (first | exact zh0 HB | refine below_set ?_ GE177.out | refine below_set ?_ GE178.out)⟩

open Go.Proofs.Ytldkbeccpheckaa.Cp
/-! ### laws_eqLoan: function 48 -/
def laws_eqLoan.f (a0_0 : Int) (a0_1 : Int) (a0_2 : Int) (a0_3 : Int) (a0_4 : Bool) (a0_5 : Int) (a0_6 : Int) (a1_0 : Int) (a1_1 : Int) (a1_2 : Int) (a1_3 : Int) (a1_4 : Bool) (a1_5 : Int) (a1_6 : Int) : Option (Bool) := (laws_eqWindow.f a0_0 a0_1 a0_2 a0_3 a1_0 a1_1 a1_2 a1_3).bind fun t181 => (if t181 = true then (if (a0_4 != a1_4) = true then (some false) else (if a0_5 = a1_5 then (if a0_6 = a1_6 then (some true) else (some false)) else (some false))) else (some false))
set_option maxHeartbeats 8000000 in
set_option maxRecDepth 100000 in
theorem laws_eqLoan.calls (a0_0 : Int) (a0_1 : Int) (a0_2 : Int) (a0_3 : Int) (a0_4 : Bool) (a0_5 : Int) (a0_6 : Int) (a1_0 : Int) (a1_1 : Int) (a1_2 : Int) (a1_3 : Int) (a1_4 : Bool) (a1_5 : Int) (a1_6 : Int) (r : Bool) (w : World) (h : laws_eqLoan.f a0_0 a0_1 a0_2 a0_3 a0_4 a0_5 a0_6 a1_0 a1_1 a1_2 a1_3 a1_4 a1_5 a1_6 = some r) :
  Calls Try.prog 48 #[.agg #[.int .i64 a0_0, .int .i64 a0_1, .int .i64 a0_2, .int .i64 a0_3, .bool a0_4, .int .i64 a0_5, .int .i64 a0_6], .agg #[.int .i64 a1_0, .int .i64 a1_1, .int .i64 a1_2, .int .i64 a1_3, .bool a1_4, .int .i64 a1_5, .int .i64 a1_6]] w fun e w' => e = .returned (.bool r) ∧ Below w.heap.size w w' := by
 have hu71 := Try.underlying71
 have hu33 := Try.underlying33
 have HB := Aside0.mk (Below.refl w.heap.size w)
 have H : ((laws_eqWindow.f a0_0 a0_1 a0_2 a0_3 a1_0 a1_1 a1_2 a1_3).bind fun t181 => (if t181 = true then (if (a0_4 != a1_4) = true then (some false) else (if a0_5 = a1_5 then (if a0_6 = a1_6 then (some true) else (some false)) else (some false))) else (some false))) = some r := h
 clear h
 replace H := Option.bind_eq_some_iff.mp H
 obtain ⟨t181, A30, H⟩ := H
 replace H : (if t181 = true then (if (a0_4 != a1_4) = true then (some false) else (if a0_5 = a1_5 then (if a0_6 = a1_6 then (some true) else (some false)) else (some false))) else (some false)) = some r := H
 have A3 := Aside0.mk A30
 clear A30
 by_cases c4 : t181 = true
 ·subst c4
  have H1 : (if (a0_4 != a1_4) = true then (some false) else (if a0_5 = a1_5 then (if a0_6 = a1_6 then (some true) else (some false)) else (some false))) = some r := by rw [if_pos rfl] at H; exact H
  clear H
  have H := H1
  clear H1
  by_cases c5 : (a0_4 != a1_4) = true
  ·rw [if_pos c5] at H
   have c5b0 : (a0_4 != a1_4) = true := c5
   (try (have c5b1 : decide (a0_4 = a1_4) = false := by simpa using c5))
   (try (have c5b2 : (a0_4 == a1_4) = false := by simpa using c5))
   (try (have c5b3 : ¬ (a0_4 = a1_4) := by simpa using c5))
   clear c5
   obtain rfl := Option.some.inj H
   go_enter Try.func48, Try.ntmps48
   go_wp2_with (first | ((with_reducible refine gate_dst (N := 2) rfl ?_); refine box_event ?hg (N := 2) ?hd (cs := #[.int .i64 a0_0, .int .i64 a0_1, .int .i64 a0_2, .int .i64 a0_3, .bool a0_4, .int .i64 a0_5, .int .i64 a0_6]) (t := 71) ?hr ?_; (case hd => rfl); (case hg => rfl); (case hr => first | (go_simp; done) | (go_simp; rfl)); intro gb179 hg w6 hbox hb; have BK179 := Aside0.mk (hbox); have GW179 := zge HB hg; have GE179 := zge HB hg; replace HB := zhs HB hb; clear hb hbox hg) | ((with_reducible refine gate_dst (N := 3) rfl ?_); refine box_event ?hg (N := 3) ?hd (cs := #[.int .i64 a1_0, .int .i64 a1_1, .int .i64 a1_2, .int .i64 a1_3, .bool a1_4, .int .i64 a1_5, .int .i64 a1_6]) (t := 71) ?hr ?_; (case hd => rfl); (case hg => rfl); (case hr => first | (go_simp; done) | (go_simp; rfl)); intro gb180 hg w7 hbox hb; have BK180 := Aside0.mk (hbox); have GW180 := zge HB hg; have GE180 := zge HB hg; have NB179_180 := znl BK179 hg; have NB180_179 := znr BK179 hg; replace BK179 := zb0 BK179 hb; replace HB := zhs HB hb; clear hb hbox hg; have hnb8 := NB179_180.out; have hnc8 := NB180_179.out; have hcz9_0 := zc0 BK179 0 rfl; have hcz9_1 := zc0 BK179 1 rfl; have hcz9_2 := zc0 BK179 2 rfl; have hcz9_3 := zc0 BK179 3 rfl; have hcz9_4 := zc0 BK179 4 rfl; have hcz9_5 := zc0 BK179 5 rfl; have hcz9_6 := zc0 BK179 6 rfl; have hfz9_0 := blk_frozen BK179.out 0; have hfz9_1 := blk_frozen BK179.out 1; have hfz9_2 := blk_frozen BK179.out 2; have hfz9_3 := blk_frozen BK179.out 3; have hfz9_4 := blk_frozen BK179.out 4; have hfz9_5 := blk_frozen BK179.out 5; have hfz9_6 := blk_frozen BK179.out 6; have hcz10_0 := zc0 BK180 0 rfl; have hcz10_1 := zc0 BK180 1 rfl; have hcz10_2 := zc0 BK180 2 rfl; have hcz10_3 := zc0 BK180 3 rfl; have hcz10_4 := zc0 BK180 4 rfl; have hcz10_5 := zc0 BK180 5 rfl; have hcz10_6 := zc0 BK180 6 rfl; have hfz10_0 := blk_frozen BK180.out 0; have hfz10_1 := blk_frozen BK180.out 1; have hfz10_2 := blk_frozen BK180.out 2; have hfz10_3 := blk_frozen BK180.out 3; have hfz10_4 := blk_frozen BK180.out 4; have hfz10_5 := blk_frozen BK180.out 5; have hfz10_6 := blk_frozen BK180.out 6) | ((with_reducible refine gate_callee (f := 27) rfl ?_); refine goesL_ (some 9) rfl rfl Try.func27 (by kernel_rfl) rfl #[.agg #[.int .i64 a0_0, .int .i64 a0_1, .int .i64 a0_2, .int .i64 a0_3], .agg #[.int .i64 a1_0, .int .i64 a1_1, .int .i64 a1_2, .int .i64 a1_3]] rfl (by (try simp only [zq1, zq2, zq3]); first | done | rfl | (simp only [List.length_drop, List.length_take]; rfl)) ?_; (with_reducible refine (laws_eqWindow.calls a0_0 a0_1 a0_2 a0_3 a1_0 a1_1 a1_2 a1_3 true _ A3.out).mono ?_); rintro e w11 ⟨rfl, hb⟩; refine ⟨_, rfl, ?_⟩; replace BK179 := zb0 BK179 hb; replace BK180 := zb0 BK180 hb; replace HB := zhs HB hb; (try clear hb); have hcz12_0 := zc0 BK179 0 rfl; have hcz12_1 := zc0 BK179 1 rfl; have hcz12_2 := zc0 BK179 2 rfl; have hcz12_3 := zc0 BK179 3 rfl; have hcz12_4 := zc0 BK179 4 rfl; have hcz12_5 := zc0 BK179 5 rfl; have hcz12_6 := zc0 BK179 6 rfl; have hfz12_0 := blk_frozen BK179.out 0; have hfz12_1 := blk_frozen BK179.out 1; have hfz12_2 := blk_frozen BK179.out 2; have hfz12_3 := blk_frozen BK179.out 3; have hfz12_4 := blk_frozen BK179.out 4; have hfz12_5 := blk_frozen BK179.out 5; have hfz12_6 := blk_frozen BK179.out 6; have hcz13_0 := zc0 BK180 0 rfl; have hcz13_1 := zc0 BK180 1 rfl; have hcz13_2 := zc0 BK180 2 rfl; have hcz13_3 := zc0 BK180 3 rfl; have hcz13_4 := zc0 BK180 4 rfl; have hcz13_5 := zc0 BK180 5 rfl; have hcz13_6 := zc0 BK180 6 rfl; have hfz13_0 := blk_frozen BK180.out 0; have hfz13_1 := blk_frozen BK180.out 1; have hfz13_2 := blk_frozen BK180.out 2; have hfz13_3 := blk_frozen BK180.out 3; have hfz13_4 := blk_frozen BK180.out 4; have hfz13_5 := blk_frozen BK180.out 5; have hfz13_6 := blk_frozen BK180.out 6))
   go_ret
   exact ⟨by first | rfl | (simp <;> rfl) | (simp [*] <;> rfl), by repeat (first | exact zh0 HB | refine below_set ?_ GE179.out | refine below_set ?_ GE180.out)⟩
  ·rw [if_neg c5] at H
   have c5b0 : (a0_4 != a1_4) = false := by simpa using c5
   (try (have c5b1 : decide (a0_4 = a1_4) = true := by simpa using c5))
   (try (have c5b2 : (a0_4 == a1_4) = true := by simpa using c5))
   clear c5
   by_cases c14 : a0_5 = a1_5
   ·rw [if_pos c14] at H
    have c14b0 : (a0_5 == a1_5) = true := beq_iff_eq.mpr c14
    have c14b1 : (a0_5 != a1_5) = false := bne_eq_false_iff_eq.mpr c14
    clear c14
    by_cases c15 : a0_6 = a1_6
    ·rw [if_pos c15] at H
     have c15b0 : (a0_6 == a1_6) = true := beq_iff_eq.mpr c15
     have c15b1 : (a0_6 != a1_6) = false := bne_eq_false_iff_eq.mpr c15
     clear c15
     obtain rfl := Option.some.inj H
     go_enter Try.func48, Try.ntmps48
     go_wp2_with (first | ((with_reducible refine gate_dst (N := 2) rfl ?_); refine box_event ?hg (N := 2) ?hd (cs := #[.int .i64 a0_0, .int .i64 a0_1, .int .i64 a0_2, .int .i64 a0_3, .bool a0_4, .int .i64 a0_5, .int .i64 a0_6]) (t := 71) ?hr ?_; (case hd => rfl); (case hg => rfl); (case hr => first | (go_simp; done) | (go_simp; rfl)); intro gb179 hg w16 hbox hb; have BK179 := Aside0.mk (hbox); have GW179 := zge HB hg; have GE179 := zge HB hg; replace HB := zhs HB hb; clear hb hbox hg) | ((with_reducible refine gate_dst (N := 3) rfl ?_); refine box_event ?hg (N := 3) ?hd (cs := #[.int .i64 a1_0, .int .i64 a1_1, .int .i64 a1_2, .int .i64 a1_3, .bool a1_4, .int .i64 a1_5, .int .i64 a1_6]) (t := 71) ?hr ?_; (case hd => rfl); (case hg => rfl); (case hr => first | (go_simp; done) | (go_simp; rfl)); intro gb180 hg w17 hbox hb; have BK180 := Aside0.mk (hbox); have GW180 := zge HB hg; have GE180 := zge HB hg; have NB179_180 := znl BK179 hg; have NB180_179 := znr BK179 hg; replace BK179 := zb0 BK179 hb; replace HB := zhs HB hb; clear hb hbox hg; have hnb18 := NB179_180.out; have hnc18 := NB180_179.out; have hcz19_0 := zc0 BK179 0 rfl; have hcz19_1 := zc0 BK179 1 rfl; have hcz19_2 := zc0 BK179 2 rfl; have hcz19_3 := zc0 BK179 3 rfl; have hcz19_4 := zc0 BK179 4 rfl; have hcz19_5 := zc0 BK179 5 rfl; have hcz19_6 := zc0 BK179 6 rfl; have hfz19_0 := blk_frozen BK179.out 0; have hfz19_1 := blk_frozen BK179.out 1; have hfz19_2 := blk_frozen BK179.out 2; have hfz19_3 := blk_frozen BK179.out 3; have hfz19_4 := blk_frozen BK179.out 4; have hfz19_5 := blk_frozen BK179.out 5; have hfz19_6 := blk_frozen BK179.out 6; have hcz20_0 := zc0 BK180 0 rfl; have hcz20_1 := zc0 BK180 1 rfl; have hcz20_2 := zc0 BK180 2 rfl; have hcz20_3 := zc0 BK180 3 rfl; have hcz20_4 := zc0 BK180 4 rfl; have hcz20_5 := zc0 BK180 5 rfl; have hcz20_6 := zc0 BK180 6 rfl; have hfz20_0 := blk_frozen BK180.out 0; have hfz20_1 := blk_frozen BK180.out 1; have hfz20_2 := blk_frozen BK180.out 2; have hfz20_3 := blk_frozen BK180.out 3; have hfz20_4 := blk_frozen BK180.out 4; have hfz20_5 := blk_frozen BK180.out 5; have hfz20_6 := blk_frozen BK180.out 6) | ((with_reducible refine gate_callee (f := 27) rfl ?_); refine goesL_ (some 9) rfl rfl Try.func27 (by kernel_rfl) rfl #[.agg #[.int .i64 a0_0, .int .i64 a0_1, .int .i64 a0_2, .int .i64 a0_3], .agg #[.int .i64 a1_0, .int .i64 a1_1, .int .i64 a1_2, .int .i64 a1_3]] rfl (by (try simp only [zq1, zq2, zq3]); first | done | rfl | (simp only [List.length_drop, List.length_take]; rfl)) ?_; (with_reducible refine (laws_eqWindow.calls a0_0 a0_1 a0_2 a0_3 a1_0 a1_1 a1_2 a1_3 true _ A3.out).mono ?_); rintro e w21 ⟨rfl, hb⟩; refine ⟨_, rfl, ?_⟩; replace BK179 := zb0 BK179 hb; replace BK180 := zb0 BK180 hb; replace HB := zhs HB hb; (try clear hb); have hcz22_0 := zc0 BK179 0 rfl; have hcz22_1 := zc0 BK179 1 rfl; have hcz22_2 := zc0 BK179 2 rfl; have hcz22_3 := zc0 BK179 3 rfl; have hcz22_4 := zc0 BK179 4 rfl; have hcz22_5 := zc0 BK179 5 rfl; have hcz22_6 := zc0 BK179 6 rfl; have hfz22_0 := blk_frozen BK179.out 0; have hfz22_1 := blk_frozen BK179.out 1; have hfz22_2 := blk_frozen BK179.out 2; have hfz22_3 := blk_frozen BK179.out 3; have hfz22_4 := blk_frozen BK179.out 4; have hfz22_5 := blk_frozen BK179.out 5; have hfz22_6 := blk_frozen BK179.out 6; have hcz23_0 := zc0 BK180 0 rfl; have hcz23_1 := zc0 BK180 1 rfl; have hcz23_2 := zc0 BK180 2 rfl; have hcz23_3 := zc0 BK180 3 rfl; have hcz23_4 := zc0 BK180 4 rfl; have hcz23_5 := zc0 BK180 5 rfl; have hcz23_6 := zc0 BK180 6 rfl; have hfz23_0 := blk_frozen BK180.out 0; have hfz23_1 := blk_frozen BK180.out 1; have hfz23_2 := blk_frozen BK180.out 2; have hfz23_3 := blk_frozen BK180.out 3; have hfz23_4 := blk_frozen BK180.out 4; have hfz23_5 := blk_frozen BK180.out 5; have hfz23_6 := blk_frozen BK180.out 6))
     go_ret
     exact ⟨by first | rfl | (simp <;> rfl) | (simp [*] <;> rfl), by repeat (first | exact zh0 HB | refine below_set ?_ GE179.out | refine below_set ?_ GE180.out)⟩
    ·rw [if_neg c15] at H
     have c15b0 : (a0_6 == a1_6) = false := beq_eq_false_iff_ne.mpr c15
     have c15b1 : (a0_6 != a1_6) = true := bne_iff_ne.mpr c15
     obtain rfl := Option.some.inj H
     go_enter Try.func48, Try.ntmps48
     go_wp2_with (first | ((with_reducible refine gate_dst (N := 2) rfl ?_); refine box_event ?hg (N := 2) ?hd (cs := #[.int .i64 a0_0, .int .i64 a0_1, .int .i64 a0_2, .int .i64 a0_3, .bool a0_4, .int .i64 a0_5, .int .i64 a0_6]) (t := 71) ?hr ?_; (case hd => rfl); (case hg => rfl); (case hr => first | (go_simp; done) | (go_simp; rfl)); intro gb179 hg w24 hbox hb; have BK179 := Aside0.mk (hbox); have GW179 := zge HB hg; have GE179 := zge HB hg; replace HB := zhs HB hb; clear hb hbox hg) | ((with_reducible refine gate_dst (N := 3) rfl ?_); refine box_event ?hg (N := 3) ?hd (cs := #[.int .i64 a1_0, .int .i64 a1_1, .int .i64 a1_2, .int .i64 a1_3, .bool a1_4, .int .i64 a1_5, .int .i64 a1_6]) (t := 71) ?hr ?_; (case hd => rfl); (case hg => rfl); (case hr => first | (go_simp; done) | (go_simp; rfl)); intro gb180 hg w25 hbox hb; have BK180 := Aside0.mk (hbox); have GW180 := zge HB hg; have GE180 := zge HB hg; have NB179_180 := znl BK179 hg; have NB180_179 := znr BK179 hg; replace BK179 := zb0 BK179 hb; replace HB := zhs HB hb; clear hb hbox hg; have hnb26 := NB179_180.out; have hnc26 := NB180_179.out; have hcz27_0 := zc0 BK179 0 rfl; have hcz27_1 := zc0 BK179 1 rfl; have hcz27_2 := zc0 BK179 2 rfl; have hcz27_3 := zc0 BK179 3 rfl; have hcz27_4 := zc0 BK179 4 rfl; have hcz27_5 := zc0 BK179 5 rfl; have hcz27_6 := zc0 BK179 6 rfl; have hfz27_0 := blk_frozen BK179.out 0; have hfz27_1 := blk_frozen BK179.out 1; have hfz27_2 := blk_frozen BK179.out 2; have hfz27_3 := blk_frozen BK179.out 3; have hfz27_4 := blk_frozen BK179.out 4; have hfz27_5 := blk_frozen BK179.out 5; have hfz27_6 := blk_frozen BK179.out 6; have hcz28_0 := zc0 BK180 0 rfl; have hcz28_1 := zc0 BK180 1 rfl; have hcz28_2 := zc0 BK180 2 rfl; have hcz28_3 := zc0 BK180 3 rfl; have hcz28_4 := zc0 BK180 4 rfl; have hcz28_5 := zc0 BK180 5 rfl; have hcz28_6 := zc0 BK180 6 rfl; have hfz28_0 := blk_frozen BK180.out 0; have hfz28_1 := blk_frozen BK180.out 1; have hfz28_2 := blk_frozen BK180.out 2; have hfz28_3 := blk_frozen BK180.out 3; have hfz28_4 := blk_frozen BK180.out 4; have hfz28_5 := blk_frozen BK180.out 5; have hfz28_6 := blk_frozen BK180.out 6) | ((with_reducible refine gate_callee (f := 27) rfl ?_); refine goesL_ (some 9) rfl rfl Try.func27 (by kernel_rfl) rfl #[.agg #[.int .i64 a0_0, .int .i64 a0_1, .int .i64 a0_2, .int .i64 a0_3], .agg #[.int .i64 a1_0, .int .i64 a1_1, .int .i64 a1_2, .int .i64 a1_3]] rfl (by (try simp only [zq1, zq2, zq3]); first | done | rfl | (simp only [List.length_drop, List.length_take]; rfl)) ?_; (with_reducible refine (laws_eqWindow.calls a0_0 a0_1 a0_2 a0_3 a1_0 a1_1 a1_2 a1_3 true _ A3.out).mono ?_); rintro e w29 ⟨rfl, hb⟩; refine ⟨_, rfl, ?_⟩; replace BK179 := zb0 BK179 hb; replace BK180 := zb0 BK180 hb; replace HB := zhs HB hb; (try clear hb); have hcz30_0 := zc0 BK179 0 rfl; have hcz30_1 := zc0 BK179 1 rfl; have hcz30_2 := zc0 BK179 2 rfl; have hcz30_3 := zc0 BK179 3 rfl; have hcz30_4 := zc0 BK179 4 rfl; have hcz30_5 := zc0 BK179 5 rfl; have hcz30_6 := zc0 BK179 6 rfl; have hfz30_0 := blk_frozen BK179.out 0; have hfz30_1 := blk_frozen BK179.out 1; have hfz30_2 := blk_frozen BK179.out 2; have hfz30_3 := blk_frozen BK179.out 3; have hfz30_4 := blk_frozen BK179.out 4; have hfz30_5 := blk_frozen BK179.out 5; have hfz30_6 := blk_frozen BK179.out 6; have hcz31_0 := zc0 BK180 0 rfl; have hcz31_1 := zc0 BK180 1 rfl; have hcz31_2 := zc0 BK180 2 rfl; have hcz31_3 := zc0 BK180 3 rfl; have hcz31_4 := zc0 BK180 4 rfl; have hcz31_5 := zc0 BK180 5 rfl; have hcz31_6 := zc0 BK180 6 rfl; have hfz31_0 := blk_frozen BK180.out 0; have hfz31_1 := blk_frozen BK180.out 1; have hfz31_2 := blk_frozen BK180.out 2; have hfz31_3 := blk_frozen BK180.out 3; have hfz31_4 := blk_frozen BK180.out 4; have hfz31_5 := blk_frozen BK180.out 5; have hfz31_6 := blk_frozen BK180.out 6))
     go_ret
     exact ⟨by first | rfl | (simp <;> rfl) | (simp [*] <;> rfl), by repeat (first | exact zh0 HB | refine below_set ?_ GE179.out | refine below_set ?_ GE180.out)⟩
   ·rw [if_neg c14] at H
    have c14b0 : (a0_5 == a1_5) = false := beq_eq_false_iff_ne.mpr c14
    have c14b1 : (a0_5 != a1_5) = true := bne_iff_ne.mpr c14
    obtain rfl := Option.some.inj H
    go_enter Try.func48, Try.ntmps48
    go_wp2_with (first | ((with_reducible refine gate_dst (N := 2) rfl ?_); refine box_event ?hg (N := 2) ?hd (cs := #[.int .i64 a0_0, .int .i64 a0_1, .int .i64 a0_2, .int .i64 a0_3, .bool a0_4, .int .i64 a0_5, .int .i64 a0_6]) (t := 71) ?hr ?_; (case hd => rfl); (case hg => rfl); (case hr => first | (go_simp; done) | (go_simp; rfl)); intro gb179 hg w32 hbox hb; have BK179 := Aside0.mk (hbox); have GW179 := zge HB hg; have GE179 := zge HB hg; replace HB := zhs HB hb; clear hb hbox hg) | ((with_reducible refine gate_dst (N := 3) rfl ?_); refine box_event ?hg (N := 3) ?hd (cs := #[.int .i64 a1_0, .int .i64 a1_1, .int .i64 a1_2, .int .i64 a1_3, .bool a1_4, .int .i64 a1_5, .int .i64 a1_6]) (t := 71) ?hr ?_; (case hd => rfl); (case hg => rfl); (case hr => first | (go_simp; done) | (go_simp; rfl)); intro gb180 hg w33 hbox hb; have BK180 := Aside0.mk (hbox); have GW180 := zge HB hg; have GE180 := zge HB hg; have NB179_180 := znl BK179 hg; have NB180_179 := znr BK179 hg; replace BK179 := zb0 BK179 hb; replace HB := zhs HB hb; clear hb hbox hg; have hnb34 := NB179_180.out; have hnc34 := NB180_179.out; have hcz35_0 := zc0 BK179 0 rfl; have hcz35_1 := zc0 BK179 1 rfl; have hcz35_2 := zc0 BK179 2 rfl; have hcz35_3 := zc0 BK179 3 rfl; have hcz35_4 := zc0 BK179 4 rfl; have hcz35_5 := zc0 BK179 5 rfl; have hcz35_6 := zc0 BK179 6 rfl; have hfz35_0 := blk_frozen BK179.out 0; have hfz35_1 := blk_frozen BK179.out 1; have hfz35_2 := blk_frozen BK179.out 2; have hfz35_3 := blk_frozen BK179.out 3; have hfz35_4 := blk_frozen BK179.out 4; have hfz35_5 := blk_frozen BK179.out 5; have hfz35_6 := blk_frozen BK179.out 6; have hcz36_0 := zc0 BK180 0 rfl; have hcz36_1 := zc0 BK180 1 rfl; have hcz36_2 := zc0 BK180 2 rfl; have hcz36_3 := zc0 BK180 3 rfl; have hcz36_4 := zc0 BK180 4 rfl; have hcz36_5 := zc0 BK180 5 rfl; have hcz36_6 := zc0 BK180 6 rfl; have hfz36_0 := blk_frozen BK180.out 0; have hfz36_1 := blk_frozen BK180.out 1; have hfz36_2 := blk_frozen BK180.out 2; have hfz36_3 := blk_frozen BK180.out 3; have hfz36_4 := blk_frozen BK180.out 4; have hfz36_5 := blk_frozen BK180.out 5; have hfz36_6 := blk_frozen BK180.out 6) | ((with_reducible refine gate_callee (f := 27) rfl ?_); refine goesL_ (some 9) rfl rfl Try.func27 (by kernel_rfl) rfl #[.agg #[.int .i64 a0_0, .int .i64 a0_1, .int .i64 a0_2, .int .i64 a0_3], .agg #[.int .i64 a1_0, .int .i64 a1_1, .int .i64 a1_2, .int .i64 a1_3]] rfl (by (try simp only [zq1, zq2, zq3]); first | done | rfl | (simp only [List.length_drop, List.length_take]; rfl)) ?_; (with_reducible refine (laws_eqWindow.calls a0_0 a0_1 a0_2 a0_3 a1_0 a1_1 a1_2 a1_3 true _ A3.out).mono ?_); rintro e w37 ⟨rfl, hb⟩; refine ⟨_, rfl, ?_⟩; replace BK179 := zb0 BK179 hb; replace BK180 := zb0 BK180 hb; replace HB := zhs HB hb; (try clear hb); have hcz38_0 := zc0 BK179 0 rfl; have hcz38_1 := zc0 BK179 1 rfl; have hcz38_2 := zc0 BK179 2 rfl; have hcz38_3 := zc0 BK179 3 rfl; have hcz38_4 := zc0 BK179 4 rfl; have hcz38_5 := zc0 BK179 5 rfl; have hcz38_6 := zc0 BK179 6 rfl; have hfz38_0 := blk_frozen BK179.out 0; have hfz38_1 := blk_frozen BK179.out 1; have hfz38_2 := blk_frozen BK179.out 2; have hfz38_3 := blk_frozen BK179.out 3; have hfz38_4 := blk_frozen BK179.out 4; have hfz38_5 := blk_frozen BK179.out 5; have hfz38_6 := blk_frozen BK179.out 6; have hcz39_0 := zc0 BK180 0 rfl; have hcz39_1 := zc0 BK180 1 rfl; have hcz39_2 := zc0 BK180 2 rfl; have hcz39_3 := zc0 BK180 3 rfl; have hcz39_4 := zc0 BK180 4 rfl; have hcz39_5 := zc0 BK180 5 rfl; have hcz39_6 := zc0 BK180 6 rfl; have hfz39_0 := blk_frozen BK180.out 0; have hfz39_1 := blk_frozen BK180.out 1; have hfz39_2 := blk_frozen BK180.out 2; have hfz39_3 := blk_frozen BK180.out 3; have hfz39_4 := blk_frozen BK180.out 4; have hfz39_5 := blk_frozen BK180.out 5; have hfz39_6 := blk_frozen BK180.out 6))
    go_ret
    exact ⟨by first | rfl | (simp <;> rfl) | (simp [*] <;> rfl), by repeat (first | exact zh0 HB | refine below_set ?_ GE179.out | refine below_set ?_ GE180.out)⟩
 ·replace c4 := Bool.eq_false_iff.mpr c4
  subst c4
  have H1 : (some false) = some r := by rw [if_neg (show ¬ (false = true) by decide)] at H; exact H
  clear H
  have H := H1
  clear H1
  obtain rfl := Option.some.inj H
  go_enter Try.func48, Try.ntmps48
  go_wp2_with (first | ((with_reducible refine gate_dst (N := 2) rfl ?_); refine box_event ?hg (N := 2) ?hd (cs := #[.int .i64 a0_0, .int .i64 a0_1, .int .i64 a0_2, .int .i64 a0_3, .bool a0_4, .int .i64 a0_5, .int .i64 a0_6]) (t := 71) ?hr ?_; (case hd => rfl); (case hg => rfl); (case hr => first | (go_simp; done) | (go_simp; rfl)); intro gb179 hg w40 hbox hb; have BK179 := Aside0.mk (hbox); have GW179 := zge HB hg; have GE179 := zge HB hg; replace HB := zhs HB hb; clear hb hbox hg) | ((with_reducible refine gate_dst (N := 3) rfl ?_); refine box_event ?hg (N := 3) ?hd (cs := #[.int .i64 a1_0, .int .i64 a1_1, .int .i64 a1_2, .int .i64 a1_3, .bool a1_4, .int .i64 a1_5, .int .i64 a1_6]) (t := 71) ?hr ?_; (case hd => rfl); (case hg => rfl); (case hr => first | (go_simp; done) | (go_simp; rfl)); intro gb180 hg w41 hbox hb; have BK180 := Aside0.mk (hbox); have GW180 := zge HB hg; have GE180 := zge HB hg; have NB179_180 := znl BK179 hg; have NB180_179 := znr BK179 hg; replace BK179 := zb0 BK179 hb; replace HB := zhs HB hb; clear hb hbox hg; have hnb42 := NB179_180.out; have hnc42 := NB180_179.out; have hcz43_0 := zc0 BK179 0 rfl; have hcz43_1 := zc0 BK179 1 rfl; have hcz43_2 := zc0 BK179 2 rfl; have hcz43_3 := zc0 BK179 3 rfl; have hcz43_4 := zc0 BK179 4 rfl; have hcz43_5 := zc0 BK179 5 rfl; have hcz43_6 := zc0 BK179 6 rfl; have hfz43_0 := blk_frozen BK179.out 0; have hfz43_1 := blk_frozen BK179.out 1; have hfz43_2 := blk_frozen BK179.out 2; have hfz43_3 := blk_frozen BK179.out 3; have hfz43_4 := blk_frozen BK179.out 4; have hfz43_5 := blk_frozen BK179.out 5; have hfz43_6 := blk_frozen BK179.out 6; have hcz44_0 := zc0 BK180 0 rfl; have hcz44_1 := zc0 BK180 1 rfl; have hcz44_2 := zc0 BK180 2 rfl; have hcz44_3 := zc0 BK180 3 rfl; have hcz44_4 := zc0 BK180 4 rfl; have hcz44_5 := zc0 BK180 5 rfl; have hcz44_6 := zc0 BK180 6 rfl; have hfz44_0 := blk_frozen BK180.out 0; have hfz44_1 := blk_frozen BK180.out 1; have hfz44_2 := blk_frozen BK180.out 2; have hfz44_3 := blk_frozen BK180.out 3; have hfz44_4 := blk_frozen BK180.out 4; have hfz44_5 := blk_frozen BK180.out 5; have hfz44_6 := blk_frozen BK180.out 6) | ((with_reducible refine gate_callee (f := 27) rfl ?_); refine goesL_ (some 9) rfl rfl Try.func27 (by kernel_rfl) rfl #[.agg #[.int .i64 a0_0, .int .i64 a0_1, .int .i64 a0_2, .int .i64 a0_3], .agg #[.int .i64 a1_0, .int .i64 a1_1, .int .i64 a1_2, .int .i64 a1_3]] rfl (by (try simp only [zq1, zq2, zq3]); first | done | rfl | (simp only [List.length_drop, List.length_take]; rfl)) ?_; (with_reducible refine (laws_eqWindow.calls a0_0 a0_1 a0_2 a0_3 a1_0 a1_1 a1_2 a1_3 false _ A3.out).mono ?_); rintro e w45 ⟨rfl, hb⟩; refine ⟨_, rfl, ?_⟩; replace BK179 := zb0 BK179 hb; replace BK180 := zb0 BK180 hb; replace HB := zhs HB hb; (try clear hb)))
  go_ret
  exact ⟨by first | rfl | (simp <;> rfl) | (simp [*] <;> rfl), by repeat (first | exact zh0 HB | refine below_set ?_ GE179.out | refine below_set ?_ GE180.out)⟩

/-! ### laws_FnExactSplitLoan: function 10 (by hand) -/
def laws_FnExactSplitLoan.f (k : Nat) (l0_0 : List (List Int)) (a1_0 : Int) (a1_1 : Int) (a1_2 : Int) (a1_3 : Int) (a1_4 : Bool) (a1_5 : Int) (a1_6 : Int) (a2 : Int) : Option Bool := (laws_szMemory.f k l0_0 1048576).bind fun x1 => if x1 < 0 then some true else (laws_toMemory.f k l0_0).bind fun x3 => (laws_toLoan.f a1_0 a1_1 a1_2 a1_3 a1_4 a1_5 a1_6).bind fun y_x6 => (spec_SplitLoan.f k x3 (y_x6.1) (y_x6.2.1) (y_x6.2.2.1) (y_x6.2.2.2.1) (y_x6.2.2.2.2.1) (y_x6.2.2.2.2.2.1) (y_x6.2.2.2.2.2.2) a2).bind fun y_x14 => (impl_SplitLoan.f k x3 (y_x6.1) (y_x6.2.1) (y_x6.2.2.1) (y_x6.2.2.2.1) (y_x6.2.2.2.2.1) (y_x6.2.2.2.2.2.1) (y_x6.2.2.2.2.2.2) a2).bind fun y_x34 => (laws_eqLoan.f (y_x34.1) (y_x34.2.1) (y_x34.2.2.1) (y_x34.2.2.2.1) (y_x34.2.2.2.2.1) (y_x34.2.2.2.2.2.1) (y_x34.2.2.2.2.2.2.1) (y_x14.1) (y_x14.2.1) (y_x14.2.2.1) (y_x14.2.2.2.1) (y_x14.2.2.2.2.1) (y_x14.2.2.2.2.2.1) (y_x14.2.2.2.2.2.2.1)).bind fun x52 => (laws_eqLoan.f (y_x34.2.2.2.2.2.2.2.1) (y_x34.2.2.2.2.2.2.2.2.1) (y_x34.2.2.2.2.2.2.2.2.2.1) (y_x34.2.2.2.2.2.2.2.2.2.2.1) (y_x34.2.2.2.2.2.2.2.2.2.2.2.1) (y_x34.2.2.2.2.2.2.2.2.2.2.2.2.1) (y_x34.2.2.2.2.2.2.2.2.2.2.2.2.2.1) (y_x14.2.2.2.2.2.2.2.1) (y_x14.2.2.2.2.2.2.2.2.1) (y_x14.2.2.2.2.2.2.2.2.2.1) (y_x14.2.2.2.2.2.2.2.2.2.2.1) (y_x14.2.2.2.2.2.2.2.2.2.2.2.1) (y_x14.2.2.2.2.2.2.2.2.2.2.2.2.1) (y_x14.2.2.2.2.2.2.2.2.2.2.2.2.2.1)).bind fun x54 => (laws_eqMemory.f k x3 x3).bind fun x57 => if x52 = true ∧ x54 = true ∧ x57 = true ∧ y_x34.2.2.2.2.2.2.2.2.2.2.2.2.2.2 = y_x14.2.2.2.2.2.2.2.2.2.2.2.2.2.2 then some true else none
theorem laws_FnExactSplitLoan.mono : ∀ l0_0 a1_0 a1_1 a1_2 a1_3 a1_4 a1_5 a1_6 a2 k, LeO (laws_FnExactSplitLoan.f k l0_0 a1_0 a1_1 a1_2 a1_3 a1_4 a1_5 a1_6 a2) (laws_FnExactSplitLoan.f (k + 1) l0_0 a1_0 a1_1 a1_2 a1_3 a1_4 a1_5 a1_6 a2) := by
  intro l0_0 a1_0 a1_1 a1_2 a1_3 a1_4 a1_5 a1_6 a2 k
  unfold laws_FnExactSplitLoan.f
  exact LeO.bind (by apply laws_szMemory.mono) (fun _ => LeO.ite (LeO.refl _) (LeO.bind (by apply laws_toMemory.mono) (fun _ => LeO.bind (LeO.refl _) (fun _ => LeO.bind (by apply spec_SplitLoan.mono) (fun _ => LeO.bind (by apply impl_SplitLoan.mono) (fun _ => LeO.bind (LeO.refl _) (fun _ => LeO.bind (LeO.refl _) (fun _ => LeO.bind (by apply laws_eqMemory.mono) (fun _ => LeO.refl _)))))))))
set_option maxHeartbeats 4000000 in
set_option maxRecDepth 100000 in
theorem laws_FnExactSplitLoan.calls (k : Nat) (A0_0 : Option Addr) (c0_0 : Nat) (l0_0 : List (List Int)) (a1_0 : Int) (a1_1 : Int) (a1_2 : Int) (a1_3 : Int) (a1_4 : Bool) (a1_5 : Int) (a1_6 : Int) (a2 : Int) (r : Bool) (w : World) (hr0_0 : Kd.C (Kd.slice 5 (Kd.int .u8)) w A0_0 l0_0.length l0_0) (hc0_0 : l0_0.length ≤ c0_0) (h : laws_FnExactSplitLoan.f k l0_0 a1_0 a1_1 a1_2 a1_3 a1_4 a1_5 a1_6 a2 = some r) :
    Calls Try.prog 10 #[.agg #[.slice A0_0 l0_0.length c0_0], .agg #[.int .i64 a1_0, .int .i64 a1_1, .int .i64 a1_2, .int .i64 a1_3, .bool a1_4, .int .i64 a1_5, .int .i64 a1_6], .int .i64 a2] w fun e w' => e = .returned (.bool r) ∧ Below w.heap.size w w' := by
  have HR0_0 := Lib.hid hr0_0
  have HC0_0 := Lib.hid hc0_0
  clear hr0_0 hc0_0
  obtain ⟨W0, hW⟩ : ∃ W, W = ((w.alloc (.cells #[.slice A0_0 l0_0.length c0_0] 24)).alloc (.cells #[.int .i64 a1_0, .int .i64 a1_1, .int .i64 a1_2, .int .i64 a1_3, .bool a1_4, .int .i64 a1_5, .int .i64 a1_6] 69)) := ⟨_, rfl⟩
  have HI : Hid (Lv.Inv w W0 [Lv.boxF (w.heap.size + 1) #[.int .i64 a1_0, .int .i64 a1_1, .int .i64 a1_2, .int .i64 a1_3, .bool a1_4, .int .i64 a1_5, .int .i64 a1_6] 69, Lv.boxF (w.heap.size) #[.slice A0_0 l0_0.length c0_0] 24]) := by
    subst hW
    have := (((Lv.Inv.refl w).box #[.slice A0_0 l0_0.length c0_0] 24).box #[.int .i64 a1_0, .int .i64 a1_1, .int .i64 a1_2, .int .i64 a1_3, .bool a1_4, .int .i64 a1_5, .int .i64 a1_6] 69)
    exact Lib.hid (by simpa using this)
  unfold laws_FnExactSplitLoan.f at h
  replace h := Option.bind_eq_some_iff.mp h
  obtain ⟨x1, A2, h⟩ := h
  try dsimp only at h
  have HA2 := Lib.hid A2
  clear A2
  have HH := Lib.hid h
  clear h
  go_enter Try.func10, Try.ntmps10
  go_upto_region 1 with (fail)
  rw [← hW]
  clear hW
  go_upto_region 2 with (fail)
  refine Fl.startL [.take 0, .take 1, .one 2, .take 3] (by decide) HI.out ?_
  refine Fl.take (some 15) (v := .agg #[.slice A0_0 l0_0.length c0_0]) rfl rfl (Fl.ld 1 rfl (by rfl) _ _ rfl rfl Try.underlying24 rfl (by kernel_rfl)) ?_
  simp only [Act.put, Fl.z1, Fl.z2, Fl.z3]
  refine Fl.take (some 16) (v := .int .i64 1048576) rfl rfl (Or.inl ⟨by rfl, fun _ _ => by rfl⟩) ?_
  simp only [Act.put, Fl.z1, Fl.z2, Fl.z3]
  refine Fl.call (some 17) Try.func12 (by kernel_rfl) rfl #[.agg #[.slice A0_0 l0_0.length c0_0], .int .i64 1048576] rfl rfl rfl (by rfl) rfl (fun E W hE hi => ?_)
  refine (laws_szMemory.calls k _ _ l0_0 1048576 x1 W (Kd.C_below HR0_0.out hi.bel) HC0_0.out HA2.out).mono ?_
  rintro e W' ⟨rfl, hb⟩
  refine Fl.keep hi hb ?_
  clear hi hb hE
  simp only [Act.put, Fl.z1, Fl.z2, Fl.z3]
  refine Fl.take (some 7) (v := .int .i64 x1) rfl rfl (Or.inl ⟨by rfl, fun _ _ => by rfl⟩) ?_
  simp only [Act.put, Fl.z1, Fl.z2, Fl.z3]
  refine Fl.stop (fun W hi => ?_)
  replace HI := Lib.hid hi
  clear hi
  try clear hn_
  have h := HH.out
  clear HH
  by_cases hn : x1 < 0
  · rw [if_pos hn] at h
    obtain rfl := Option.some.inj h
    clear h
    have hn_ := decide_eq_true hn
    go_wp2
    go_ret
    exact ⟨rfl, HI.out.bel⟩
  rw [if_neg hn] at h
  have hn_ := decide_eq_false hn
  clear hn
  replace h := Option.bind_eq_some_iff.mp h
  obtain ⟨x3, A4, h⟩ := h
  try dsimp only at h
  have HA4 := Lib.hid A4
  clear A4
  replace h := Option.bind_eq_some_iff.mp h
  obtain ⟨⟨x6, x7, x8, x9, x10, x11, x12⟩, A13, h⟩ := h
  try dsimp only at h
  have HA13 := Lib.hid A13
  clear A13
  replace h := Option.bind_eq_some_iff.mp h
  obtain ⟨⟨x14, x15, x16, x17, x18, x19, x20, x21, x22, x23, x24, x25, x26, x27, x28⟩, A29, h⟩ := h
  try dsimp only at h
  have HA29 := Lib.hid A29
  clear A29
  replace h := Option.bind_eq_some_iff.mp h
  obtain ⟨⟨x34, x35, x36, x37, x38, x39, x40, x41, x42, x43, x44, x45, x46, x47, x48⟩, A49, h⟩ := h
  try dsimp only at h
  have HA49 := Lib.hid A49
  clear A49
  replace h := Option.bind_eq_some_iff.mp h
  obtain ⟨x52, A53, h⟩ := h
  try dsimp only at h
  have HA53 := Lib.hid A53
  clear A53
  replace h := Option.bind_eq_some_iff.mp h
  obtain ⟨x54, A55, h⟩ := h
  try dsimp only at h
  have HA55 := Lib.hid A55
  clear A55
  replace h := Option.bind_eq_some_iff.mp h
  obtain ⟨x57, A58, h⟩ := h
  try dsimp only at h
  have HA58 := Lib.hid A58
  clear A58
  obtain ⟨hc, rfl⟩ := Lv.of_if h
  clear h
  obtain ⟨rfl, rfl, rfl, rfl⟩ := hc
  go_upto_region 5 with (fail)
  refine Fl.start [([],[]),([0],[0]),([],[]),([2,1],[2]),([],[]),([1,3,4,3],[1,3,4]),([5],[5]),([6],[6]),([6],[6]),([6],[6]),([],[]),([],[]),([10,7,5,0,1,2,3,4,5,6,7,10,11],[7,10]),([11,8,12,0,1,2,3,4,5,6,7,8,10,11,12],[8,11]),([9,13,0,1,2,3,4,5,6,7,8,9,10,11,12,13],[9])] [⟨10, 8, #[.int .i64 0, .int .i64 0, .int .i64 0, .int .i64 0, .bool false, .int .i64 0, .int .i64 0], 71⟩, ⟨11, 9, #[.int .i64 0, .int .i64 0, .int .i64 0, .int .i64 0, .bool false, .int .i64 0, .int .i64 0], 71⟩] 13 [.take 0, .take 2, .take 4, .one 1, .one 3, .one 5, .take 6, .take 7, .take 8, .take 9] [.one 12, .one 13, .take 14] (by kernel_rfl) (by kernel_rfl) (by decide) (by decide) (by kernel_rfl) (by kernel_rfl) (Fl.mkc ⟨_, rfl, rfl, fun _ => rfl, fun e w => by go_simp⟩ (Fl.mkc ⟨_, rfl, rfl, fun _ => rfl, fun e w => by go_simp⟩ Fl.mk0)) HI.out ?_
  refine Fl.take (some 21) (v := .agg #[.slice A0_0 l0_0.length c0_0]) rfl rfl (Fl.ld 1 rfl (by rfl) _ _ rfl rfl Try.underlying24 rfl (by kernel_rfl)) ?_
  simp only [Act.put, Fl.z1, Fl.z2, Fl.z3]
  refine Fl.take (some 23) (v := .agg #[.int .i64 a1_0, .int .i64 a1_1, .int .i64 a1_2, .int .i64 a1_3, .bool a1_4, .int .i64 a1_5, .int .i64 a1_6]) rfl rfl (Fl.ld 0 rfl (by rfl) _ _ rfl rfl Try.underlying69 rfl (by kernel_rfl)) ?_
  simp only [Act.put, Fl.z1, Fl.z2, Fl.z3]
  refine Fl.take (some 25) (v := .int .i64 a2) rfl rfl (Or.inl ⟨by rfl, fun _ _ => by rfl⟩) ?_
  simp only [Act.put, Fl.z1, Fl.z2, Fl.z3]
  refine Fl.call (some 22) Try.func14 (by kernel_rfl) rfl #[.agg #[.slice A0_0 l0_0.length c0_0]] rfl rfl rfl (by rfl) rfl (fun E W hE hi => ?_)
  refine (laws_toMemory.calls k _ _ l0_0 x3 W (Kd.C_below HR0_0.out hi.bel) HC0_0.out HA4.out).mono ?_
  rintro e W' ⟨v, rfl, hr, hb⟩
  obtain ⟨Aq5, cq5, rfl⟩ := Kd.S_slice hr
  refine Fl.addS hi (Kd.S_mono hr (fun _ _ => trivial)) hb ?_
  clear hr
  clear hi hb hE
  simp only [Act.put, Fl.z1, Fl.z2, Fl.z3]
  refine Fl.call (some 24) Try.func46 (by kernel_rfl) rfl #[.agg #[.int .i64 a1_0, .int .i64 a1_1, .int .i64 a1_2, .int .i64 a1_3, .bool a1_4, .int .i64 a1_5, .int .i64 a1_6]] rfl rfl rfl (by rfl) rfl (fun E W hE hi => ?_)
  refine (laws_toLoan.calls a1_0 a1_1 a1_2 a1_3 a1_4 a1_5 a1_6 x6 x7 x8 x9 x10 x11 x12 W HA13.out).mono ?_
  rintro e W' ⟨rfl, hb⟩
  refine Fl.keep hi hb ?_
  clear hi hb hE
  simp only [Act.put, Fl.z1, Fl.z2, Fl.z3]
  refine Fl.call (some 26) Try.func45 (by kernel_rfl) rfl #[.agg #[.slice Aq5 x3.length cq5], .agg #[.int .i64 x6, .int .i64 x7, .int .i64 x8, .int .i64 x9, .bool x10, .int .i64 x11, .int .i64 x12], .int .i64 a2] rfl rfl rfl (by rfl) rfl (fun E W hE hi => ?_)
  refine (spec_SplitLoan.calls k _ _ x3 x6 x7 x8 x9 x10 x11 x12 a2 x14 x15 x16 x17 x18 x19 x20 x21 x22 x23 x24 x25 x26 x27 x48 W (hi.cS 0 rfl) (hi.lS 0 rfl) HA29.out).mono ?_
  rintro e W' ⟨rfl, hb⟩
  refine Fl.keep hi hb ?_
  clear hi hb hE
  simp only [Act.put, Fl.z1, Fl.z2, Fl.z3]
  refine Fl.take (some 20) (v := .tuple #[.agg #[.int .i64 x14, .int .i64 x15, .int .i64 x16, .int .i64 x17, .bool x18, .int .i64 x19, .int .i64 x20], .agg #[.int .i64 x21, .int .i64 x22, .int .i64 x23, .int .i64 x24, .bool x25, .int .i64 x26, .int .i64 x27], .bool x48]) rfl rfl (Or.inl ⟨by rfl, fun _ _ => by rfl⟩) ?_
  simp only [Act.put, Fl.z1, Fl.z2, Fl.z3]
  refine Fl.take (some 27) (v := .agg #[.int .i64 x14, .int .i64 x15, .int .i64 x16, .int .i64 x17, .bool x18, .int .i64 x19, .int .i64 x20]) rfl rfl (Or.inl ⟨by rfl, fun _ _ => by rfl⟩) ?_
  simp only [Act.put, Fl.z1, Fl.z2, Fl.z3]
  refine Fl.take (some 28) (v := .agg #[.int .i64 x21, .int .i64 x22, .int .i64 x23, .int .i64 x24, .bool x25, .int .i64 x26, .int .i64 x27]) rfl rfl (Or.inl ⟨by rfl, fun _ _ => by rfl⟩) ?_
  simp only [Act.put, Fl.z1, Fl.z2, Fl.z3]
  refine Fl.take (some 29) (v := .bool x48) rfl rfl (Or.inl ⟨by rfl, fun _ _ => by rfl⟩) ?_
  simp only [Act.put, Fl.z1, Fl.z2, Fl.z3]
  refine Fl.fin2 (fun b30 b31 => ?_)
  simp only [Act.put, Fl.z1, Fl.z2, Fl.z3]
  refine Fl.store 1 #[.int .i64 x14, .int .i64 x15, .int .i64 x16, .int .i64 x17, .bool x18, .int .i64 x19, .int .i64 x20] rfl rfl rfl rfl _ _ _ rfl rfl rfl (by rfl) rfl (by kernel_rfl) (by simp [Value.oneCell']) ?_
  refine Fl.store 2 #[.int .i64 x21, .int .i64 x22, .int .i64 x23, .int .i64 x24, .bool x25, .int .i64 x26, .int .i64 x27] rfl rfl rfl rfl _ _ _ rfl rfl rfl (by rfl) rfl (by kernel_rfl) (by simp [Value.oneCell']) ?_
  refine Fl.take (some 10) (v := .bool x48) rfl rfl (Or.inl ⟨by rfl, fun _ _ => by rfl⟩) ?_
  simp only [Act.put, Fl.z1, Fl.z2, Fl.z3]
  refine Fl.stopN (fun W hi => ?_)
  replace HI := Lib.hid hi
  clear hi
  try clear hn_
  go_upto_region 6 with (fail)
  refine Fl.startL [.take 0, .one 1, .one 2, .one 3] (by decide) HI.out ?_
  refine Fl.take (some 30) (v := .agg #[.slice A0_0 l0_0.length c0_0]) rfl rfl (Fl.ld 4 rfl (by rfl) _ _ rfl rfl Try.underlying24 rfl (by kernel_rfl)) ?_
  simp only [Act.put, Fl.z1, Fl.z2, Fl.z3]
  refine Fl.call (some 31) Try.func14 (by kernel_rfl) rfl #[.agg #[.slice A0_0 l0_0.length c0_0]] rfl rfl rfl (by rfl) rfl (fun E W hE hi => ?_)
  refine (laws_toMemory.calls k _ _ l0_0 x3 W (Kd.C_below HR0_0.out hi.bel) HC0_0.out HA4.out).mono ?_
  rintro e W' ⟨v, rfl, hr, hb⟩
  obtain ⟨Aq32, cq32, rfl⟩ := Kd.S_slice hr
  refine Fl.addS hi (Kd.S_mono hr (fun _ _ => trivial)) hb ?_
  clear hr
  clear hi hb hE
  simp only [Act.put, Fl.z1, Fl.z2, Fl.z3]
  refine Fl.var (N := 11) (cs := #[.slice none 0 0]) (t := 31) ⟨_, rfl, rfl, fun _ => rfl, fun e w => by go_simp⟩ (fun b33 => ?_)
  simp only [Act.put, Fl.z1, Fl.z2, Fl.z3]
  refine Fl.store 0 #[.slice Aq32 x3.length cq32] rfl rfl rfl rfl _ _ _ rfl rfl rfl (by rfl) rfl (by kernel_rfl) (by simp [Value.oneCell']) ?_
  refine Fl.stop (fun W hi => ?_)
  replace HI := Lib.hid hi
  clear hi
  try clear hn_
  go_upto_region 7 with (fail)
  refine Fl.start [([],[]),([],[]),([1],[1]),([],[]),([0,2,3,2],[0,2,3]),([4],[4]),([5],[5]),([5],[5]),([5],[5]),([],[]),([],[]),([9,6,4,0,1,2,3,4,5,6,9,10],[6,9]),([10,7,11,0,1,2,3,4,5,6,7,9,10,11],[7,10]),([8,12,0,1,2,3,4,5,6,7,8,9,10,11,12],[8])] [⟨9, 12, #[.int .i64 0, .int .i64 0, .int .i64 0, .int .i64 0, .bool false, .int .i64 0, .int .i64 0], 71⟩, ⟨10, 13, #[.int .i64 0, .int .i64 0, .int .i64 0, .int .i64 0, .bool false, .int .i64 0, .int .i64 0], 71⟩] 12 [.take 0, .take 1, .take 3, .one 2, .one 4, .take 5, .take 6, .take 7, .take 8] [.one 11, .one 12, .take 13] (by kernel_rfl) (by kernel_rfl) (by decide) (by decide) (by kernel_rfl) (by kernel_rfl) (Fl.mkc ⟨_, rfl, rfl, fun _ => rfl, fun e w => by go_simp⟩ (Fl.mkc ⟨_, rfl, rfl, fun _ => rfl, fun e w => by go_simp⟩ Fl.mk0)) HI.out ?_
  refine Fl.take (some 33) (v := .agg #[.slice Aq32 x3.length cq32]) rfl rfl (Fl.ld 0 rfl (by rfl) _ _ rfl rfl Try.underlying31 rfl (by kernel_rfl)) ?_
  simp only [Act.put, Fl.z1, Fl.z2, Fl.z3]
  refine Fl.take (some 34) (v := .agg #[.int .i64 a1_0, .int .i64 a1_1, .int .i64 a1_2, .int .i64 a1_3, .bool a1_4, .int .i64 a1_5, .int .i64 a1_6]) rfl rfl (Fl.ld 5 rfl (by rfl) _ _ rfl rfl Try.underlying69 rfl (by kernel_rfl)) ?_
  simp only [Act.put, Fl.z1, Fl.z2, Fl.z3]
  refine Fl.take (some 36) (v := .int .i64 a2) rfl rfl (Or.inl ⟨by rfl, fun _ _ => by rfl⟩) ?_
  simp only [Act.put, Fl.z1, Fl.z2, Fl.z3]
  refine Fl.call (some 35) Try.func46 (by kernel_rfl) rfl #[.agg #[.int .i64 a1_0, .int .i64 a1_1, .int .i64 a1_2, .int .i64 a1_3, .bool a1_4, .int .i64 a1_5, .int .i64 a1_6]] rfl rfl rfl (by rfl) rfl (fun E W hE hi => ?_)
  refine (laws_toLoan.calls a1_0 a1_1 a1_2 a1_3 a1_4 a1_5 a1_6 x6 x7 x8 x9 x10 x11 x12 W HA13.out).mono ?_
  rintro e W' ⟨rfl, hb⟩
  refine Fl.keep hi hb ?_
  clear hi hb hE
  simp only [Act.put, Fl.z1, Fl.z2, Fl.z3]
  refine Fl.call (some 37) Try.func47 (by kernel_rfl) rfl #[.agg #[.slice Aq32 x3.length cq32], .agg #[.int .i64 x6, .int .i64 x7, .int .i64 x8, .int .i64 x9, .bool x10, .int .i64 x11, .int .i64 x12], .int .i64 a2] rfl rfl rfl (by rfl) rfl (fun E W hE hi => ?_)
  refine (impl_SplitLoan.calls k _ _ x3 x6 x7 x8 x9 x10 x11 x12 a2 x34 x35 x36 x37 x38 x39 x40 x41 x42 x43 x44 x45 x46 x47 x48 W ((hE _ (Fl.inv_drop hi)).cS 1 rfl) ((hE _ (Fl.inv_drop hi)).lS 1 rfl) HA49.out).mono ?_
  rintro e W' ⟨rfl, hb⟩
  refine Fl.keep hi hb ?_
  clear hi hb hE
  simp only [Act.put, Fl.z1, Fl.z2, Fl.z3]
  refine Fl.take (some 32) (v := .tuple #[.agg #[.int .i64 x34, .int .i64 x35, .int .i64 x36, .int .i64 x37, .bool x38, .int .i64 x39, .int .i64 x40], .agg #[.int .i64 x41, .int .i64 x42, .int .i64 x43, .int .i64 x44, .bool x45, .int .i64 x46, .int .i64 x47], .bool x48]) rfl rfl (Or.inl ⟨by rfl, fun _ _ => by rfl⟩) ?_
  simp only [Act.put, Fl.z1, Fl.z2, Fl.z3]
  refine Fl.take (some 38) (v := .agg #[.int .i64 x34, .int .i64 x35, .int .i64 x36, .int .i64 x37, .bool x38, .int .i64 x39, .int .i64 x40]) rfl rfl (Or.inl ⟨by rfl, fun _ _ => by rfl⟩) ?_
  simp only [Act.put, Fl.z1, Fl.z2, Fl.z3]
  refine Fl.take (some 39) (v := .agg #[.int .i64 x41, .int .i64 x42, .int .i64 x43, .int .i64 x44, .bool x45, .int .i64 x46, .int .i64 x47]) rfl rfl (Or.inl ⟨by rfl, fun _ _ => by rfl⟩) ?_
  simp only [Act.put, Fl.z1, Fl.z2, Fl.z3]
  refine Fl.take (some 40) (v := .bool x48) rfl rfl (Or.inl ⟨by rfl, fun _ _ => by rfl⟩) ?_
  simp only [Act.put, Fl.z1, Fl.z2, Fl.z3]
  refine Fl.fin2 (fun b50 b51 => ?_)
  simp only [Act.put, Fl.z1, Fl.z2, Fl.z3]
  refine Fl.store 0 #[.int .i64 x34, .int .i64 x35, .int .i64 x36, .int .i64 x37, .bool x38, .int .i64 x39, .int .i64 x40] rfl rfl rfl rfl _ _ _ rfl rfl rfl (by rfl) rfl (by kernel_rfl) (by simp [Value.oneCell']) ?_
  refine Fl.store 1 #[.int .i64 x41, .int .i64 x42, .int .i64 x43, .int .i64 x44, .bool x45, .int .i64 x46, .int .i64 x47] rfl rfl rfl rfl _ _ _ rfl rfl rfl (by rfl) rfl (by kernel_rfl) (by simp [Value.oneCell']) ?_
  refine Fl.take (some 14) (v := .bool x48) rfl rfl (Or.inl ⟨by rfl, fun _ _ => by rfl⟩) ?_
  simp only [Act.put, Fl.z1, Fl.z2, Fl.z3]
  refine Fl.stopN (fun W hi => ?_)
  replace HI := Lib.hid hi
  clear hi
  try clear hn_
  go_upto_region 8 with (fail)
  refine Fl.startL [.take 0, .take 1, .one 2, .take 3, .take 4, .take 5, .take 6, .one 7, .take 8, .take 9, .take 10, .take 11, .take 12, .take 13, .take 14] (by decide) HI.out ?_
  refine Fl.take (some 41) (v := .agg #[.int .i64 x34, .int .i64 x35, .int .i64 x36, .int .i64 x37, .bool x38, .int .i64 x39, .int .i64 x40]) rfl rfl (Fl.ld 0 rfl (by rfl) _ _ rfl rfl Try.underlying71 rfl (by kernel_rfl)) ?_
  simp only [Act.put, Fl.z1, Fl.z2, Fl.z3]
  refine Fl.take (some 42) (v := .agg #[.int .i64 x14, .int .i64 x15, .int .i64 x16, .int .i64 x17, .bool x18, .int .i64 x19, .int .i64 x20]) rfl rfl (Fl.ld 5 rfl (by rfl) _ _ rfl rfl Try.underlying71 rfl (by kernel_rfl)) ?_
  simp only [Act.put, Fl.z1, Fl.z2, Fl.z3]
  refine Fl.call (some 43) Try.func48 (by kernel_rfl) rfl #[.agg #[.int .i64 x34, .int .i64 x35, .int .i64 x36, .int .i64 x37, .bool x38, .int .i64 x39, .int .i64 x40], .agg #[.int .i64 x14, .int .i64 x15, .int .i64 x16, .int .i64 x17, .bool x18, .int .i64 x19, .int .i64 x20]] rfl rfl rfl (by rfl) rfl (fun E W hE hi => ?_)
  refine (laws_eqLoan.calls x34 x35 x36 x37 x38 x39 x40 x14 x15 x16 x17 x18 x19 x20 true W HA53.out).mono ?_
  rintro e W' ⟨rfl, hb⟩
  refine Fl.keep hi hb ?_
  clear hi hb hE
  simp only [Act.put, Fl.z1, Fl.z2, Fl.z3]
  refine Fl.take (some 44) (v := .bool false) rfl rfl (Or.inl ⟨by rfl, fun _ _ => by rfl⟩) ?_
  simp only [Act.put, Fl.z1, Fl.z2, Fl.z3]
  refine Fl.take (some 45) (v := .bool false) rfl rfl (Or.inl ⟨by rfl, fun _ _ => by rfl⟩) ?_
  simp only [Act.put, Fl.z1, Fl.z2, Fl.z3]
  refine Fl.take (some 46) (v := .agg #[.int .i64 x41, .int .i64 x42, .int .i64 x43, .int .i64 x44, .bool x45, .int .i64 x46, .int .i64 x47]) rfl rfl (Fl.ld 1 rfl (by rfl) _ _ rfl rfl Try.underlying71 rfl (by kernel_rfl)) ?_
  simp only [Act.put, Fl.z1, Fl.z2, Fl.z3]
  refine Fl.take (some 47) (v := .agg #[.int .i64 x21, .int .i64 x22, .int .i64 x23, .int .i64 x24, .bool x25, .int .i64 x26, .int .i64 x27]) rfl rfl (Fl.ld 6 rfl (by rfl) _ _ rfl rfl Try.underlying71 rfl (by kernel_rfl)) ?_
  simp only [Act.put, Fl.z1, Fl.z2, Fl.z3]
  refine Fl.call (some 48) Try.func48 (by kernel_rfl) rfl #[.agg #[.int .i64 x41, .int .i64 x42, .int .i64 x43, .int .i64 x44, .bool x45, .int .i64 x46, .int .i64 x47], .agg #[.int .i64 x21, .int .i64 x22, .int .i64 x23, .int .i64 x24, .bool x25, .int .i64 x26, .int .i64 x27]] rfl rfl rfl (by rfl) rfl (fun E W hE hi => ?_)
  refine (laws_eqLoan.calls x41 x42 x43 x44 x45 x46 x47 x21 x22 x23 x24 x25 x26 x27 true W HA55.out).mono ?_
  rintro e W' ⟨rfl, hb⟩
  refine Fl.keep hi hb ?_
  clear hi hb hE
  simp only [Act.put, Fl.z1, Fl.z2, Fl.z3]
  refine Fl.take (some 49) (v := .bool false) rfl rfl (Or.inl ⟨by rfl, fun _ _ => by rfl⟩) ?_
  simp only [Act.put, Fl.z1, Fl.z2, Fl.z3]
  refine Fl.take (some 50) (v := .bool false) rfl rfl (Or.inl ⟨by rfl, fun _ _ => by rfl⟩) ?_
  simp only [Act.put, Fl.z1, Fl.z2, Fl.z3]
  refine Fl.take (some 51) (v := .bool false) rfl rfl (Or.inl ⟨by rfl, fun _ _ => by rfl⟩) ?_
  simp only [Act.put, Fl.z1, Fl.z2, Fl.z3]
  refine Fl.take (some 52) (v := .bool x48) rfl rfl (Or.inl ⟨by rfl, fun _ _ => by rfl⟩) ?_
  simp only [Act.put, Fl.z1, Fl.z2, Fl.z3]
  refine Fl.take (some 53) (v := .bool x48) rfl rfl (Or.inl ⟨by rfl, fun _ _ => by rfl⟩) ?_
  simp only [Act.put, Fl.z1, Fl.z2, Fl.z3]
  refine Fl.take (some 54) (v := .bool false) rfl rfl (Or.inl ⟨by rfl, fun _ _ => by go_simp⟩) ?_
  simp only [Act.put, Fl.z1, Fl.z2, Fl.z3]
  refine Fl.take (some 55) (v := .bool false) rfl rfl (Or.inl ⟨by rfl, fun _ _ => by rfl⟩) ?_
  simp only [Act.put, Fl.z1, Fl.z2, Fl.z3]
  refine Fl.stop (fun W hi => ?_)
  replace HI := Lib.hid hi
  clear hi
  try clear hn_
  go_upto_region 10 with (fail)
  refine Fl.start [([],[]),([],[]),([1],[1]),([0,2,2],[0,2]),([3],[3])] [] 6 [.take 0, .take 1, .one 2, .one 3, .take 4] [] (by kernel_rfl) (by kernel_rfl) (by decide) (by decide) (by kernel_rfl) (by kernel_rfl) Fl.mk0 HI.out ?_
  refine Fl.take (some 56) (v := .agg #[.slice Aq32 x3.length cq32]) rfl rfl (Fl.ld 2 rfl (by rfl) _ _ rfl rfl Try.underlying31 rfl (by kernel_rfl)) ?_
  simp only [Act.put, Fl.z1, Fl.z2, Fl.z3]
  refine Fl.take (some 57) (v := .agg #[.slice A0_0 l0_0.length c0_0]) rfl rfl (Fl.ld 8 rfl (by rfl) _ _ rfl rfl Try.underlying24 rfl (by kernel_rfl)) ?_
  simp only [Act.put, Fl.z1, Fl.z2, Fl.z3]
  refine Fl.call (some 58) Try.func14 (by kernel_rfl) rfl #[.agg #[.slice A0_0 l0_0.length c0_0]] rfl rfl rfl (by rfl) rfl (fun E W hE hi => ?_)
  refine (laws_toMemory.calls k _ _ l0_0 x3 W (Kd.C_below HR0_0.out hi.bel) HC0_0.out HA4.out).mono ?_
  rintro e W' ⟨v, rfl, hr, hb⟩
  obtain ⟨Aq56, cq56, rfl⟩ := Kd.S_slice hr
  refine Fl.addS hi (Kd.S_mono hr (fun _ _ => trivial)) hb ?_
  clear hr
  clear hi hb hE
  simp only [Act.put, Fl.z1, Fl.z2, Fl.z3]
  refine Fl.call (some 59) Try.func18 (by kernel_rfl) rfl #[.agg #[.slice Aq32 x3.length cq32], .agg #[.slice Aq56 x3.length cq56]] rfl rfl rfl (by rfl) rfl (fun E W hE hi => ?_)
  refine (laws_eqMemory.calls k _ _ x3 _ _ x3 true W ((hE _ (Fl.inv_drop hi)).cS 3 rfl) ((hE _ (Fl.inv_drop hi)).lS 3 rfl) (hi.cS 0 rfl) (hi.lS 0 rfl) HA58.out).mono ?_
  rintro e W' ⟨rfl, hb⟩
  refine Fl.keep hi hb ?_
  clear hi hb hE
  simp only [Act.put, Fl.z1, Fl.z2, Fl.z3]
  refine Fl.take (some 60) (v := .bool false) rfl rfl (Or.inl ⟨by rfl, fun _ _ => by rfl⟩) ?_
  simp only [Act.put, Fl.z1, Fl.z2, Fl.z3]
  refine Fl.fin0 ?_
  refine Fl.stopN (fun W hi => ?_)
  replace HI := Lib.hid hi
  clear hi
  try clear hn_
  go_wp2
  go_ret
  exact ⟨rfl, HI.out.bel⟩

end Go.Proofs.Ytldkbeccpheckaa.PFnExactSplitLoan
