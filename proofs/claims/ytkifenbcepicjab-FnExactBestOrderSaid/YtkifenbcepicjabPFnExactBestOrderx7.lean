/- What is proved here: each Go function that is named below answers, and leaves memory, as the theorem of its name says; no condition beyond those that each theorem states. Laid by this session's own program (wip/driver.py) over the kit's print. -/
import Derived.Test.YtkifenbcepicjabPFnExactBestOrderx0
import Derived.Test.YtkifenbcepicjabPFnExactBestOrderx4
import Derived.Test.YtkifenbcepicjabPFnExactBestOrderx6
namespace Go.Proofs.Ytkifenbcepicjab.PFnExactBestOrder
open Go.RowKit Go.Proofs.YtkifenbcepicjabW.PrintWords Go.Proofs.YtkifenbcepicjabW.PrintLast Go.Proofs.YtkifenbcepicjabW.PrintMore
attribute [local go_sem] max2_int min2_int max_two min_two max_three min_three max_four min_four   -- for this text's walks alone
set_option linter.unusedVariables false
set_option linter.unusedSimpArgs false

/-! ### impl_BestOrder: function 22 (by hand) -/
def impl_BestOrder.gv (a1 a2 a3 a4 u sz al : Int) : Option (Bool × Int) := (impl_Arena_begin.f ([] : List (List Int)) a1 a2 a3 a4 u ([] : List Int) al).bind fun b => if sz > wrap64 (a3 - b) then some (false, u) else (impl_Window_part.f a1 a2 a3 a4 b sz).bind fun _ => some (true, wrap64 (b + sz))
set_option maxHeartbeats 4000000 in
set_option maxRecDepth 100000 in
theorem impl_BestOrder.give (a1 a2 a3 a4 u sz al : Int) (r1 : Bool) (r2 : Int) (gN : Nat) (w0 w : World) (Qs : List Lv.Fact) (hI : Lv.Inv w0 w (Lv.boxF gN #[.slice none 0 0, .int .i64 a1, .int .i64 a2, .int .i64 a3, .int .i64 a4, .int .i64 u, .slice none 0 0] 38 :: Qs)) (h : impl_BestOrder.gv a1 a2 a3 a4 u sz al = some (r1, r2)) :
    Calls Try.prog 72 #[.pointer (some ⟨gN, 0, none⟩), .agg #[.int .i64 sz, .int .i64 al]] w fun e w' => ∃ p1 p2 p3 p4 : Int, e = .returned (.tuple #[.agg #[.int .i64 p1, .int .i64 p2, .int .i64 p3, .int .i64 p4], .bool r1]) ∧ Lv.Inv w0 w' (Lv.boxF gN #[.slice none 0 0, .int .i64 a1, .int .i64 a2, .int .i64 a3, .int .i64 a4, .int .i64 r2, .slice none 0 0] 38 :: Qs) := by
  obtain ⟨b, hb, h⟩ := Option.bind_eq_some_iff.mp h
  have HB := Lib.hid hb
  clear hb
  obtain ⟨gq, hgq⟩ : ∃ g, g = w.heap.size := ⟨_, rfl⟩
  obtain ⟨g4, hg4⟩ : ∃ g, g = w.heap.size + 1 := ⟨_, rfl⟩
  obtain ⟨W0, hW⟩ : ∃ W, W = (w.alloc (.cells #[.int .i64 sz, .int .i64 al] 95)).alloc (.cells #[.int .i64 0, .int .i64 0, .int .i64 0, .int .i64 0] 36) := ⟨_, rfl⟩
  have HI : Hid (Lv.Inv w0 W0 (Lv.boxF g4 #[.int .i64 0, .int .i64 0, .int .i64 0, .int .i64 0] 36 :: Lv.boxF gq #[.int .i64 sz, .int .i64 al] 95 :: Lv.boxF gN #[.slice none 0 0, .int .i64 a1, .int .i64 a2, .int .i64 a3, .int .i64 a4, .int .i64 u, .slice none 0 0] 38 :: Qs)) := by
    subst hW hgq hg4
    have := (hI.box #[.int .i64 sz, .int .i64 al] 95).box #[.int .i64 0, .int .i64 0, .int .i64 0, .int .i64 0] 36
    exact Lib.hid (by simpa using this)
  clear hI
  go_enter Try.func72, Try.ntmps72
  go_upto_region 1 with (fail)
  rw [← hW, ← hg4, ← hgq]
  clear hW hg4 hgq
  refine Fl.start [([],[]),([0],[0]),([1],[1]),([],[]),([3],[3]),([2,4],[2,4]),([5,5,0,1,2,3,4,5],[5])] [] 8 [.take 0, .take 1, .take 2, .take 3, .take 4, .one 5, .take 6] [] (by kernel_rfl) (by kernel_rfl) (by decide) (by decide) (by kernel_rfl) (by kernel_rfl) Fl.mk0 HI.out ?_
  refine Fl.take (some 7) (v := .pointer (some ⟨gN, 0, none⟩)) rfl rfl (Or.inl ⟨by rfl, fun _ _ => by rfl⟩) ?_
  simp only [Act.put, Fl.z1, Fl.z2, Fl.z3]
  refine Fl.take (some 8) (v := .pointer (some ⟨gN, 0, none⟩)) rfl rfl (Or.inl ⟨by rfl, fun _ _ => by first | rfl | (go_simp; done) | (go_simp; rfl) | (go_simp; simp only [i64_w])⟩) ?_
  simp only [Act.put, Fl.z1, Fl.z2, Fl.z3]
  refine Fl.take (some 9) (v := .agg #[.slice none 0 0, .int .i64 a1, .int .i64 a2, .int .i64 a3, .int .i64 a4, .int .i64 u, .slice none 0 0]) rfl rfl (Fl.ld 2 rfl (by rfl) _ _ rfl rfl Try.underlying38 rfl (by kernel_rfl)) ?_
  simp only [Act.put, Fl.z1, Fl.z2, Fl.z3]
  refine Fl.take (some 10) (v := .pointer (some ⟨gq, 1, none⟩)) rfl rfl (Or.inl ⟨by rfl, fun _ _ => by first | rfl | (go_simp; done) | (go_simp; rfl) | (go_simp; omega)⟩) ?_
  simp only [Act.put, Fl.z1, Fl.z2, Fl.z3]
  refine Fl.take (some 11) (v := .int .i64 al) rfl rfl (Fl.ldc 1 1 rfl (by rfl) _ _ rfl rfl rfl Try.underlying3 rfl) ?_
  simp only [Act.put, Fl.z1, Fl.z2, Fl.z3]
  refine Fl.call (some 12) Try.func116 (by kernel_rfl) rfl #[.agg #[.slice none 0 0, .int .i64 a1, .int .i64 a2, .int .i64 a3, .int .i64 a4, .int .i64 u, .slice none 0 0], .int .i64 al] rfl rfl rfl (by rfl) rfl (fun E W hE hi => ?_)
  refine (impl_Arena_begin.calls _ _ ([] : List (List Int)) a1 a2 a3 a4 u _ _ ([] : List Int) al b W Lv.c_nil (Nat.le_refl _) Lv.c_nil (Nat.le_refl _) HB.out).mono ?_
  rintro e W' ⟨rfl, hb⟩
  refine Fl.keep (v := .int .i64 b) hi hb ?_
  clear hi hb hE
  simp only [Act.put, Fl.z1, Fl.z2, Fl.z3]
  refine Fl.take (some 6) (v := .int .i64 b) rfl rfl (Or.inl ⟨by rfl, fun _ _ => by rfl⟩) ?_
  simp only [Act.put, Fl.z1, Fl.z2, Fl.z3]
  refine Fl.fin0 ?_
  refine Fl.stopN (fun W hi => ?_)
  replace HI := Lib.hid hi
  clear hi
  by_cases hgt : sz > wrap64 (a3 - b)
  · have HGT := Lib.hid hgt
    rw [if_pos hgt] at h
    obtain ⟨rfl, rfl⟩ := Prod.mk.inj (Option.some.inj h)
    clear h hgt
    go_upto_region 2 with (fail)
    refine Fl.start [([],[]),([0],[0]),([],[]),([2],[2]),([3],[3]),([4],[4]),([5],[5]),([],[]),([6,7],[6,7]),([1,8],[1,8])] [] 11 [.take 0, .take 1, .take 2, .take 3, .take 4, .take 5, .take 6, .take 7, .take 8, .take 9] [] (by kernel_rfl) (by kernel_rfl) (by decide) (by decide) (by kernel_rfl) (by kernel_rfl) Fl.mk0 HI.out ?_
    refine Fl.take (some 13) (v := .pointer (some ⟨gq, 0, none⟩)) rfl rfl (Or.inl ⟨by rfl, fun _ _ => by first | rfl | (go_simp; done) | (go_simp; rfl) | (go_simp; omega)⟩) ?_
    simp only [Act.put, Fl.z1, Fl.z2, Fl.z3]
    refine Fl.take (some 14) (v := .int .i64 sz) rfl rfl (Fl.ldc 1 0 rfl (by rfl) _ _ rfl rfl rfl Try.underlying3 rfl) ?_
    simp only [Act.put, Fl.z1, Fl.z2, Fl.z3]
    refine Fl.take (some 15) (v := .pointer (some ⟨gN, 0, none⟩)) rfl rfl (Or.inl ⟨by rfl, fun _ _ => by rfl⟩) ?_
    simp only [Act.put, Fl.z1, Fl.z2, Fl.z3]
    refine Fl.take (some 16) (v := .pointer (some ⟨gN, 0, none⟩)) rfl rfl (Or.inl ⟨by rfl, fun _ _ => by first | rfl | (go_simp; done) | (go_simp; rfl) | (go_simp; simp only [i64_w])⟩) ?_
    simp only [Act.put, Fl.z1, Fl.z2, Fl.z3]
    refine Fl.take (some 17) (v := .pointer (some ⟨gN, 1, none⟩)) rfl rfl (Or.inl ⟨by rfl, fun _ _ => by first | rfl | (go_simp; done) | (go_simp; rfl) | (go_simp; omega)⟩) ?_
    simp only [Act.put, Fl.z1, Fl.z2, Fl.z3]
    refine Fl.take (some 18) (v := .pointer (some ⟨gN, 3, none⟩)) rfl rfl (Or.inl ⟨by rfl, fun _ _ => by first | rfl | (go_simp; done) | (go_simp; rfl) | (go_simp; omega)⟩) ?_
    simp only [Act.put, Fl.z1, Fl.z2, Fl.z3]
    refine Fl.take (some 19) (v := .int .i64 a3) rfl rfl (Fl.ldc 2 3 rfl (by rfl) _ _ rfl rfl rfl Try.underlying3 rfl) ?_
    simp only [Act.put, Fl.z1, Fl.z2, Fl.z3]
    refine Fl.take (some 20) (v := .int .i64 b) rfl rfl (Or.inl ⟨by rfl, fun _ _ => by rfl⟩) ?_
    simp only [Act.put, Fl.z1, Fl.z2, Fl.z3]
    refine Fl.take (some 21) (v := .int .i64 (wrap64 (a3 - b))) rfl rfl (Or.inl ⟨by rfl, fun _ _ => by first | rfl | (go_simp; done) | (go_simp; rfl) | (go_simp; simp only [i64_w])⟩) ?_
    simp only [Act.put, Fl.z1, Fl.z2, Fl.z3]
    refine Fl.take (some 22) (v := .bool true) rfl rfl (Or.inl ⟨by rfl, fun _ _ => by have h_ := eq_true HGT.out; first | (go_simp; done) | (go_simp; rfl)⟩) ?_
    simp only [Act.put, Fl.z1, Fl.z2, Fl.z3]
    refine Fl.fin0 ?_
    refine Fl.stopN (fun W hi => ?_)
    replace HI := Lib.hid hi
    clear hi
    go_upto_region 3 with (fail)
    refine Fl.startW [.take 0, .one 1, .take 2] (by decide) HI.out ?_
    refine Fl.take (some 23) (v := .agg #[.int .i64 0, .int .i64 0, .int .i64 0, .int .i64 0]) rfl rfl (Or.inl ⟨by rfl, fun _ _ => by first | rfl | (go_simp; done) | (go_simp; rfl) | (go_simp; simp only [i64_w])⟩) ?_
    simp only [Act.put, Fl.z1, Fl.z2, Fl.z3]
    refine Fl.store 0 #[.int .i64 0, .int .i64 0, .int .i64 0, .int .i64 0] rfl rfl rfl rfl _ _ _ rfl rfl rfl (by rfl) rfl (by kernel_rfl) (by simp [Value.oneCell']) ?_
    refine Fl.take (some 5) (v := .bool false) rfl rfl (Or.inl ⟨by rfl, fun _ _ => by rfl⟩) ?_
    simp only [Act.put, Fl.z1, Fl.z2, Fl.z3]
    refine Fl.stopW (fun W hi => ?_)
    replace HI := Lib.hid hi
    clear hi
    go_wp2
    refine bodyPost_ret (v := .tuple #[.agg #[.int .i64 0, .int .i64 0, .int .i64 0, .int .i64 0], .bool false]) (results_list (rs := [.cell 4 36, .tmp 5]) rfl (by simp) (.cell _ _ _ (0, 0) _ rfl (HI.out.blk 0 rfl) Try.underlying36 rfl (by kernel_rfl) (.tmp .nil))) rfl ?_
    first | exact ⟨_, _, _, _, rfl, HI.out.tail.tail⟩ | exact ⟨⟨_, _, _, _, rfl⟩, HI.out.tail.tail⟩
  · have HGT := Lib.hid hgt
    rw [if_neg hgt] at h
    obtain ⟨⟨p1, p2, p3, p4⟩, hp, h⟩ := Option.bind_eq_some_iff.mp h
    have HP := Lib.hid hp
    obtain ⟨rfl, rfl⟩ := Prod.mk.inj (Option.some.inj h)
    clear h hgt hp
    go_upto_region 2 with (fail)
    refine Fl.start [([],[]),([0],[0]),([],[]),([2],[2]),([3],[3]),([4],[4]),([5],[5]),([],[]),([6,7],[6,7]),([1,8],[1,8])] [] 11 [.take 0, .take 1, .take 2, .take 3, .take 4, .take 5, .take 6, .take 7, .take 8, .take 9] [] (by kernel_rfl) (by kernel_rfl) (by decide) (by decide) (by kernel_rfl) (by kernel_rfl) Fl.mk0 HI.out ?_
    refine Fl.take (some 13) (v := .pointer (some ⟨gq, 0, none⟩)) rfl rfl (Or.inl ⟨by rfl, fun _ _ => by first | rfl | (go_simp; done) | (go_simp; rfl) | (go_simp; omega)⟩) ?_
    simp only [Act.put, Fl.z1, Fl.z2, Fl.z3]
    refine Fl.take (some 14) (v := .int .i64 sz) rfl rfl (Fl.ldc 1 0 rfl (by rfl) _ _ rfl rfl rfl Try.underlying3 rfl) ?_
    simp only [Act.put, Fl.z1, Fl.z2, Fl.z3]
    refine Fl.take (some 15) (v := .pointer (some ⟨gN, 0, none⟩)) rfl rfl (Or.inl ⟨by rfl, fun _ _ => by rfl⟩) ?_
    simp only [Act.put, Fl.z1, Fl.z2, Fl.z3]
    refine Fl.take (some 16) (v := .pointer (some ⟨gN, 0, none⟩)) rfl rfl (Or.inl ⟨by rfl, fun _ _ => by first | rfl | (go_simp; done) | (go_simp; rfl) | (go_simp; simp only [i64_w])⟩) ?_
    simp only [Act.put, Fl.z1, Fl.z2, Fl.z3]
    refine Fl.take (some 17) (v := .pointer (some ⟨gN, 1, none⟩)) rfl rfl (Or.inl ⟨by rfl, fun _ _ => by first | rfl | (go_simp; done) | (go_simp; rfl) | (go_simp; omega)⟩) ?_
    simp only [Act.put, Fl.z1, Fl.z2, Fl.z3]
    refine Fl.take (some 18) (v := .pointer (some ⟨gN, 3, none⟩)) rfl rfl (Or.inl ⟨by rfl, fun _ _ => by first | rfl | (go_simp; done) | (go_simp; rfl) | (go_simp; omega)⟩) ?_
    simp only [Act.put, Fl.z1, Fl.z2, Fl.z3]
    refine Fl.take (some 19) (v := .int .i64 a3) rfl rfl (Fl.ldc 2 3 rfl (by rfl) _ _ rfl rfl rfl Try.underlying3 rfl) ?_
    simp only [Act.put, Fl.z1, Fl.z2, Fl.z3]
    refine Fl.take (some 20) (v := .int .i64 b) rfl rfl (Or.inl ⟨by rfl, fun _ _ => by rfl⟩) ?_
    simp only [Act.put, Fl.z1, Fl.z2, Fl.z3]
    refine Fl.take (some 21) (v := .int .i64 (wrap64 (a3 - b))) rfl rfl (Or.inl ⟨by rfl, fun _ _ => by first | rfl | (go_simp; done) | (go_simp; rfl) | (go_simp; simp only [i64_w])⟩) ?_
    simp only [Act.put, Fl.z1, Fl.z2, Fl.z3]
    refine Fl.take (some 22) (v := .bool false) rfl rfl (Or.inl ⟨by rfl, fun _ _ => by have h_ := eq_false HGT.out; first | (go_simp; done) | (go_simp; rfl)⟩) ?_
    simp only [Act.put, Fl.z1, Fl.z2, Fl.z3]
    refine Fl.fin0 ?_
    refine Fl.stopN (fun W hi => ?_)
    replace HI := Lib.hid hi
    clear hi
    go_upto_region 4 with (fail)
    refine Fl.startW [.take 0, .take 1, .take 2, .one 3, .take 4, .take 5, .take 6, .one 7] (by decide) HI.out ?_
    refine Fl.take (some 24) (v := .pointer (some ⟨gN, 0, none⟩)) rfl rfl (Or.inl ⟨by rfl, fun _ _ => by rfl⟩) ?_
    simp only [Act.put, Fl.z1, Fl.z2, Fl.z3]
    refine Fl.take (some 25) (v := .int .i64 b) rfl rfl (Or.inl ⟨by rfl, fun _ _ => by rfl⟩) ?_
    simp only [Act.put, Fl.z1, Fl.z2, Fl.z3]
    refine Fl.take (some 26) (v := .pointer (some ⟨gq, 0, none⟩)) rfl rfl (Or.inl ⟨by rfl, fun _ _ => by first | rfl | (go_simp; done) | (go_simp; rfl) | (go_simp; omega)⟩) ?_
    simp only [Act.put, Fl.z1, Fl.z2, Fl.z3]
    refine Fl.ldXc (some 27) 1 0 rfl rfl rfl (by rfl) _ _ rfl rfl rfl Try.underlying3 rfl ?_
    simp only [Act.put, Fl.z1, Fl.z2, Fl.z3]
    refine Fl.take (some 28) (v := .int .i64 (wrap64 (b + sz))) rfl rfl (Or.inl ⟨by rfl, fun _ _ => by first | rfl | (go_simp; done) | (go_simp; rfl) | (go_simp; simp only [i64_w])⟩) ?_
    simp only [Act.put, Fl.z1, Fl.z2, Fl.z3]
    refine Fl.take (some 29) (v := .pointer (some ⟨gN, 0, none⟩)) rfl rfl (Or.inl ⟨by rfl, fun _ _ => by first | rfl | (go_simp; done) | (go_simp; rfl) | (go_simp; simp only [i64_w])⟩) ?_
    simp only [Act.put, Fl.z1, Fl.z2, Fl.z3]
    refine Fl.take (some 30) (v := .pointer (some ⟨gN, 5, none⟩)) rfl rfl (Or.inl ⟨by rfl, fun _ _ => by first | rfl | (go_simp; done) | (go_simp; rfl) | (go_simp; omega)⟩) ?_
    simp only [Act.put, Fl.z1, Fl.z2, Fl.z3]
    refine Fl.storeC 2 5 (.int .i64 (wrap64 (b + sz))) rfl rfl rfl rfl _ _ _ rfl rfl rfl (by rfl) (by simp) (by kernel_rfl) rfl rfl ?_
    refine Fl.stopW (fun W hi => ?_)
    replace HI := Lib.hid hi
    clear hi
    replace HI : Hid (Lv.Inv w0 W ([Lv.boxF g4 #[.int .i64 0, .int .i64 0, .int .i64 0, .int .i64 0] 36] ++ (Lv.boxF gq #[.int .i64 sz, .int .i64 al] 95 :: Lv.boxF gN #[.slice none 0 0, .int .i64 a1, .int .i64 a2, .int .i64 a3, .int .i64 a4, .int .i64 (wrap64 (b + sz)), .slice none 0 0] 38 :: Qs))) := Lib.hid HI.out
    go_upto_region 5 with (fail)
    refine Fl.startF (F := [_]) [([],[]),([0],[0]),([1],[1]),([2],[2]),([],[]),([],[]),([5],[5]),([3,4,6],[3,4,6]),([7,7,0,1,2,3,4,5,6,7],[7]),([8,0,1,2,3,4,5,6,7,8],[])] [] 11 [.take 0, .take 1, .take 2, .take 3, .take 4, .take 5, .take 6, .one 7, .one 8, .take 9] [] (by kernel_rfl) (by kernel_rfl) (by decide) (by decide) (by kernel_rfl) (by kernel_rfl) Fl.mk0 HI.out ?_
    refine Fl.take (some 31) (v := .pointer (some ⟨gN, 0, none⟩)) rfl rfl (Or.inl ⟨by rfl, fun _ _ => by rfl⟩) ?_
    simp only [Act.put, Fl.z1, Fl.z2, Fl.z3]
    refine Fl.take (some 32) (v := .pointer (some ⟨gN, 0, none⟩)) rfl rfl (Or.inl ⟨by rfl, fun _ _ => by first | rfl | (go_simp; done) | (go_simp; rfl) | (go_simp; simp only [i64_w])⟩) ?_
    simp only [Act.put, Fl.z1, Fl.z2, Fl.z3]
    refine Fl.take (some 33) (v := .pointer (some ⟨gN, 1, none⟩)) rfl rfl (Or.inl ⟨by rfl, fun _ _ => by first | rfl | (go_simp; done) | (go_simp; rfl) | (go_simp; omega)⟩) ?_
    simp only [Act.put, Fl.z1, Fl.z2, Fl.z3]
    refine Fl.take (some 34) (v := .agg #[.int .i64 a1, .int .i64 a2, .int .i64 a3, .int .i64 a4]) rfl rfl (Fl.ldP 1 1 #[.int .i64 a1, .int .i64 a2, .int .i64 a3, .int .i64 a4] rfl (by rfl) _ _ rfl rfl rfl Try.underlying36 rfl (by kernel_rfl)) ?_
    simp only [Act.put, Fl.z1, Fl.z2, Fl.z3]
    refine Fl.take (some 35) (v := .int .i64 b) rfl rfl (Or.inl ⟨by rfl, fun _ _ => by rfl⟩) ?_
    simp only [Act.put, Fl.z1, Fl.z2, Fl.z3]
    refine Fl.take (some 36) (v := .pointer (some ⟨gq, 0, none⟩)) rfl rfl (Or.inl ⟨by rfl, fun _ _ => by first | rfl | (go_simp; done) | (go_simp; rfl) | (go_simp; omega)⟩) ?_
    simp only [Act.put, Fl.z1, Fl.z2, Fl.z3]
    refine Fl.take (some 37) (v := .int .i64 sz) rfl rfl (Fl.ldc 0 0 rfl (by rfl) _ _ rfl rfl rfl Try.underlying3 rfl) ?_
    simp only [Act.put, Fl.z1, Fl.z2, Fl.z3]
    refine Fl.call (some 38) Try.func58 (by kernel_rfl) rfl #[.agg #[.int .i64 a1, .int .i64 a2, .int .i64 a3, .int .i64 a4], .int .i64 b, .int .i64 sz] rfl rfl rfl (by rfl) rfl (fun E W hE hi => ?_)
    refine (impl_Window_part.calls a1 a2 a3 a4 b sz p1 p2 p3 p4 W HP.out).mono ?_
    rintro e W' ⟨rfl, hb⟩
    refine Fl.keep (v := .agg #[.int .i64 p1, .int .i64 p2, .int .i64 p3, .int .i64 p4]) hi hb ?_
    clear hi hb hE
    simp only [Act.put, Fl.z1, Fl.z2, Fl.z3]
    refine Fl.store 0 #[.int .i64 p1, .int .i64 p2, .int .i64 p3, .int .i64 p4] rfl rfl rfl rfl _ _ _ rfl rfl rfl (by rfl) rfl (by kernel_rfl) (by simp [Value.oneCell']) ?_
    refine Fl.take (some 5) (v := .bool true) rfl rfl (Or.inl ⟨by rfl, fun _ _ => by rfl⟩) ?_
    simp only [Act.put, Fl.z1, Fl.z2, Fl.z3]
    refine Fl.fin0 ?_
    refine Fl.stopN (fun W hi => ?_)
    replace HI := Lib.hid hi
    clear hi
    go_wp2
    refine bodyPost_ret (v := .tuple #[.agg #[.int .i64 p1, .int .i64 p2, .int .i64 p3, .int .i64 p4], .bool true]) (results_list (rs := [.cell 4 36, .tmp 5]) rfl (by simp) (.cell _ _ _ (0, 0) _ rfl (HI.out.blk 0 rfl) Try.underlying36 rfl (by kernel_rfl) (.tmp .nil))) rfl ?_
    first | exact ⟨_, _, _, _, rfl, HI.out.tail.tail⟩ | exact ⟨⟨_, _, _, _, rfl⟩, HI.out.tail.tail⟩
def impl_BestOrder.loop {α β : Type} (f : α → Int → β → Option α) : List β → Int → α → Option α
  | [], _, s => some s
  | x :: xs, i, s => (f s i x).bind fun s2 => impl_BestOrder.loop f xs (i + 1) s2
theorem impl_BestOrder.loop_mono {α β : Type} {f g : α → Int → β → Option α} (h : ∀ s i x, LeO (f s i x) (g s i x)) : ∀ (l : List β) (i : Int) (s : α), LeO (impl_BestOrder.loop f l i s) (impl_BestOrder.loop g l i s)
  | [], _, _ => LeO.refl _
  | x :: xs, i, s => LeO.bind (h s i x) (fun _ => impl_BestOrder.loop_mono h xs (i + 1) _)
/-- The search: the orders that begin with ord, behind which u bytes are given. -/
def impl_BestOrder.dfs (k : Nat) (a1 a2 a3 a4 : Int) (l : List S95) : Nat → List Int → Int → List Int × Int → Option (List Int × Int)
  | 0, _, _, _ => none
  | d + 1, ord, u, st => if ord.length = l.length then some (if st.2 < 0 ∨ u < st.2 then (ord, u) else st) else impl_BestOrder.loop (fun s i q => (slices_Contains_int_int.f k ord i).bind fun b => if b = true then some s else (impl_BestOrder.gv a1 a2 a3 a4 u q.f0 q.f1).bind fun y => if y.1 = true then impl_BestOrder.dfs k a1 a2 a3 a4 l d (ord ++ [i]) y.2 s else some s) l 0 st
theorem impl_BestOrder.dfs_mono (k : Nat) (a1 a2 a3 a4 : Int) (l : List S95) : ∀ (d : Nat) (ord : List Int) (u : Int) (st : List Int × Int), LeO (impl_BestOrder.dfs k a1 a2 a3 a4 l d ord u st) (impl_BestOrder.dfs (k + 1) a1 a2 a3 a4 l d ord u st)
  | 0, _, _, _ => LeO.refl _
  | d + 1, ord, u, st => by
    unfold impl_BestOrder.dfs
    exact LeO.ite (LeO.refl _) (impl_BestOrder.loop_mono (fun s i q => LeO.bind (by apply slices_Contains_int_int.mono) (fun _ => LeO.ite (LeO.refl _) (LeO.bind (LeO.refl _) (fun y => LeO.ite (impl_BestOrder.dfs_mono k a1 a2 a3 a4 l d _ _ _) (LeO.refl _))))) l 0 st)
set_option maxHeartbeats 4000000 in
set_option maxRecDepth 100000 in
theorem impl_BestOrder.ext (k : Nat) (a1 a2 a3 a4 : Int) (A1 : Option Addr) (c1 : Nat) (l1 : List S95) (w0 : World) (hr1 : Kd.C k95 w0 A1 l1.length l1) (h6 : l1.length ≤ 6) (gS gL gB gX n : Nat) (hn : n = l1.length) : ∀ (d : Nat) (ord : List Int) (u lst : Int) (bst bst2 : List Int) (lst2 : Int) (v bv m0 m6 : Value) (E : List Lv.Fact) (w : World)
    (hE : ∀ W', Lv.Inv w0 W' E → Lv.Inv w0 W' [Lv.boxF gX #[.func (.func 70) #[] #[.pointer (some ⟨gS, 0, none⟩), .pointer (some ⟨gL, 0, none⟩), .pointer (some ⟨gB, 0, none⟩), .pointer (some ⟨gX, 0, none⟩)]] 98, Lv.boxF gS #[.slice A1 n c1] 52]) (hI : Lv.Inv w0 w (Lv.rowF (Kd.int .i64) 3 w0.heap.size v ord :: Lv.boxF gB #[bv] 27 :: Lv.rowF (Kd.int .i64) 3 w0.heap.size bv bst :: Lv.boxF gL #[.int .i64 lst] 3 :: E)) (hol : ord.length ≤ n) (h : impl_BestOrder.dfs k a1 a2 a3 a4 l1 d ord u (bst, lst) = some (bst2, lst2)),
    Calls Try.prog 70 #[v, .agg #[m0, .int .i64 a1, .int .i64 a2, .int .i64 a3, .int .i64 a4, .int .i64 u, m6], .pointer (some ⟨gS, 0, none⟩), .pointer (some ⟨gL, 0, none⟩), .pointer (some ⟨gB, 0, none⟩), .pointer (some ⟨gX, 0, none⟩)] w fun e w' => e = .returned (.tuple #[]) ∧ ∃ bv2 : Value, Lv.Inv w0 w' (Lv.rowF (Kd.int .i64) 3 w0.heap.size v ord :: Lv.boxF gB #[bv2] 27 :: Lv.rowF (Kd.int .i64) 3 w0.heap.size bv2 bst2 :: Lv.boxF gL #[.int .i64 lst2] 3 :: E) := by
  intro d
  induction d with
  | zero => intro ord u lst bst bst2 lst2 v bv m0 m6 E w hE hI hol h; cases h
  | succ d ih =>
  intro ord u lst bst bst2 lst2 v bv m0 m6 E w hE hI hol h
  obtain ⟨A, c, rfl⟩ := hI.slice 0 rfl
  have HE := Lib.hid hE
  have HIH := Lib.hid ih
  have HR1 := Lib.hid hr1
  have HN := Lib.hid hn
  have H6 := Lib.hid h6
  have HOL := Lib.hid hol
  have EG := Lib.hid (show ∀ args w, (callFunc 70 args).run Try.prog w = .ok (.enter 70 args) w from Opn.entered Try.func70 (by kernel_rfl) rfl)
  unfold impl_BestOrder.dfs at h
  rw [← hn] at h
  have HH := Lib.hid h
  obtain ⟨g7, hg7⟩ : ∃ g, g = w.heap.size := ⟨_, rfl⟩
  obtain ⟨W0, hW⟩ : ∃ W, W = w.alloc (.cells #[m0, .int .i64 a1, .int .i64 a2, .int .i64 a3, .int .i64 a4, .int .i64 u, m6] 38) := ⟨_, rfl⟩
  have HI : Hid (Lv.Inv w0 W0 (Lv.boxF g7 #[m0, .int .i64 a1, .int .i64 a2, .int .i64 a3, .int .i64 a4, .int .i64 u, m6] 38 :: Lv.rowF (Kd.int .i64) 3 w0.heap.size (.slice A ord.length c) ord :: Lv.boxF gB #[bv] 27 :: Lv.rowF (Kd.int .i64) 3 w0.heap.size bv bst :: Lv.boxF gL #[.int .i64 lst] 3 :: E)) := by
    subst hW hg7
    exact Lib.hid (hI.box #[m0, .int .i64 a1, .int .i64 a2, .int .i64 a3, .int .i64 a4, .int .i64 u, m6] 38)
  clear hE ih hr1 hn h6 h hI hol
  go_enter Try.func70, Try.ntmps70
  go_upto_region 1 with (fail)
  rw [← hW, ← hg7]
  clear hW hg7
  by_cases heq : ord.length = n
  · have h := HH.out
    rw [if_pos heq] at h
    have HEQ := Lib.hid (show (ord.length : Int) = (n : Int) by omega)
    refine Fl.startL [.take 0, .take 1, .take 2, .take 3, .take 4] (by decide) HI.out ?_
    refine Fl.take (some 13) (v := .slice A ord.length c) rfl rfl (Or.inl ⟨by rfl, fun _ _ => by rfl⟩) ?_
    simp only [Act.put, Fl.z1, Fl.z2, Fl.z3]
    refine Fl.take (some 14) (v := .int .i64 (ord.length : Int)) rfl rfl (Or.inl ⟨by rfl, fun _ _ => by first | rfl | (go_simp; done) | (go_simp; rfl) | (go_simp; omega)⟩) ?_
    simp only [Act.put, Fl.z1, Fl.z2, Fl.z3]
    refine Fl.take (some 15) (v := .slice A1 n c1) rfl rfl (Fl.yieldsIf_load_cell (by rfl) _ _ rfl gS 0 rfl (fun W1 hW1 => (HE.out W1 (Fl.inv_drop (N := [_, _, _, _, _]) hW1)).cell 1 rfl 0 rfl) Try.underlying52 rfl) ?_
    simp only [Act.put, Fl.z1, Fl.z2, Fl.z3]
    refine Fl.take (some 16) (v := .int .i64 (n : Int)) rfl rfl (Or.inl ⟨by rfl, fun _ _ => by first | rfl | (go_simp; done) | (go_simp; rfl) | (go_simp; omega)⟩) ?_
    simp only [Act.put, Fl.z1, Fl.z2, Fl.z3]
    refine Fl.take (some 17) (v := .bool true) rfl rfl (Or.inl ⟨by rfl, fun _ _ => by have h_ := eq_true HEQ.out; first | (go_simp; done) | (go_simp; rfl)⟩) ?_
    simp only [Act.put, Fl.z1, Fl.z2, Fl.z3]
    refine Fl.stop (fun W hi => ?_)
    replace HI := Lib.hid hi
    clear hi
    by_cases hneg : lst < 0
    · rw [if_pos (Or.inl hneg)] at h
      obtain ⟨rfl, rfl⟩ := Prod.mk.inj (Option.some.inj h)
      have HNEG := Lib.hid hneg
      clear h HH hneg heq
      go_upto_region 2 with (fail)
      refine Fl.startL [.take 0, .take 1, .take 2, .take 3, .take 4, .take 5, .take 6, .take 7] (by decide) HI.out ?_
      refine Fl.take (some 18) (v := .int .i64 lst) rfl rfl (Fl.ldc 4 0 rfl (by rfl) _ _ rfl rfl rfl Try.underlying3 rfl) ?_
      simp only [Act.put, Fl.z1, Fl.z2, Fl.z3]
      refine Fl.take (some 19) (v := .bool true) rfl rfl (Or.inl ⟨by rfl, fun _ _ => by have h_ := eq_true HNEG.out; first | (go_simp; done) | (go_simp; rfl)⟩) ?_
      simp only [Act.put, Fl.z1, Fl.z2, Fl.z3]
      refine Fl.take (some 20) (v := .bool true) rfl rfl (Or.inl ⟨by rfl, fun _ _ => by rfl⟩) ?_
      simp only [Act.put, Fl.z1, Fl.z2, Fl.z3]
      refine Fl.take (some 21) (v := undef) rfl rfl (Or.inr ⟨by rfl, rfl⟩) ?_
      simp only [Act.put, Fl.z1, Fl.z2, Fl.z3]
      refine Fl.take (some 22) (v := undef) rfl rfl (Or.inr ⟨by rfl, rfl⟩) ?_
      simp only [Act.put, Fl.z1, Fl.z2, Fl.z3]
      refine Fl.take (some 23) (v := undef) rfl rfl (Or.inr ⟨by rfl, rfl⟩) ?_
      simp only [Act.put, Fl.z1, Fl.z2, Fl.z3]
      refine Fl.take (some 24) (v := undef) rfl rfl (Or.inr ⟨by rfl, rfl⟩) ?_
      simp only [Act.put, Fl.z1, Fl.z2, Fl.z3]
      refine Fl.take (some 25) (v := .bool true) rfl rfl (Or.inl ⟨by rfl, fun _ _ => by rfl⟩) ?_
      simp only [Act.put, Fl.z1, Fl.z2, Fl.z3]
      refine Fl.stop (fun W hi => ?_)
      replace HI := Lib.hid hi
      clear hi
      replace HI := Lib.hid (Lv.Inv.front (Lv.Inv.front HI.out 4 rfl) 3 rfl)
      replace HI : Hid (Lv.Inv w0 W ([Lv.boxF gB #[bv] 27, Lv.boxF gL #[.int .i64 lst] 3] ++ (Lv.boxF g7 #[m0, .int .i64 a1, .int .i64 a2, .int .i64 a3, .int .i64 a4, .int .i64 u, m6] 38 :: Lv.rowF (Kd.int .i64) 3 w0.heap.size (.slice A ord.length c) ord :: Lv.rowF (Kd.int .i64) 3 w0.heap.size bv bst :: E))) := HI
      go_upto_region 3 with (fail)
      refine Fl.startF (F := [_, _]) [([],[]),([],[]),([0,1],[0,1]),([],[]),([3],[3]),([2,2,0,1,2],[2]),([4,5,0,1,2,3,4,5],[4])] [] 8 [.take 1, .take 3, .take 4, .one 0, .one 2, .one 5, .one 6] [] (by kernel_rfl) (by kernel_rfl) (by decide) (by decide) (by kernel_rfl) (by kernel_rfl) Fl.mk0 HI.out ?_
      refine Fl.take (some 27) (v := .slice A ord.length c) rfl rfl (Or.inl ⟨by rfl, fun _ _ => by rfl⟩) ?_
      simp only [Act.put, Fl.z1, Fl.z2, Fl.z3]
      refine Fl.take (some 29) (v := .pointer (some ⟨g7, 5, none⟩)) rfl rfl (Or.inl ⟨by rfl, fun _ _ => by first | rfl | (go_simp; done) | (go_simp; rfl) | (go_simp; omega)⟩) ?_
      simp only [Act.put, Fl.z1, Fl.z2, Fl.z3]
      refine Fl.take (some 30) (v := .int .i64 u) rfl rfl (Fl.ldc 0 5 rfl (by rfl) _ _ rfl rfl rfl Try.underlying3 rfl) ?_
      simp only [Act.put, Fl.z1, Fl.z2, Fl.z3]
      refine Fl.lay0 (Kd.int .i64) (e := 3) (N := 26) rfl rfl (by rfl) (fun W => by first | (go_simp; done) | (go_simp; rfl)) (fun v0 => ?_)
      simp only [Act.put, Fl.z1, Fl.z2, Fl.z3]
      refine Fl.appP (N := 28) (bytes := 8) (z := .int .i64 0) (ys := ord) (fun _ _ _ _ hk => hk) rfl rfl (by rfl) rfl Try.underlying27 (by kernel_rfl) rfl (by decide) (by decide) rfl rfl (by have := HOL.out; have := H6.out; have := HN.out; simp; omega) (fun W hW => hW.cR 1 rfl) (fun A2 c2 => ?_)
      simp only [Act.put, Fl.z1, Fl.z2, Fl.z3]
      refine Fl.storeC 1 0 (.slice A2 ([] ++ ord).length c2) rfl rfl rfl rfl _ _ _ rfl rfl rfl (by rfl) (by simp) (by kernel_rfl) rfl rfl ?_
      refine Fl.storeC 2 0 (.int .i64 u) rfl rfl rfl rfl _ _ _ rfl rfl rfl (by rfl) (by simp) (by kernel_rfl) rfl rfl ?_
      refine Fl.fin0 ?_
      refine Fl.stopN (fun W hi => ?_)
      replace HI := Lib.hid hi
      clear hi
      have HF := Lib.hid (Lv.Inv.front (Lv.Inv.front (Lv.Inv.front (Lv.Inv.omit (Lv.Inv.omit HI.out 5 rfl) 3 rfl) 3 rfl) 2 rfl) 1 rfl)
      go_wp2
      first | (exact bodyPost_ret (results_none rfl _ _ _) rfl ⟨rfl, _, HF.out⟩) | exact ⟨rfl, _, results_none rfl _ _ _, rfl, _, HF.out⟩
    · have HNEG := Lib.hid hneg
      by_cases hless : u < lst
      · rw [if_pos (Or.inr hless)] at h
        obtain ⟨rfl, rfl⟩ := Prod.mk.inj (Option.some.inj h)
        have HLESS := Lib.hid hless
        clear h HH hneg hless heq
        go_upto_region 2 with (fail)
        refine Fl.startL [.take 0, .take 1, .take 2, .take 3, .take 4, .take 5, .take 6, .take 7] (by decide) HI.out ?_
        refine Fl.take (some 18) (v := .int .i64 lst) rfl rfl (Fl.ldc 4 0 rfl (by rfl) _ _ rfl rfl rfl Try.underlying3 rfl) ?_
        simp only [Act.put, Fl.z1, Fl.z2, Fl.z3]
        refine Fl.take (some 19) (v := .bool false) rfl rfl (Or.inl ⟨by rfl, fun _ _ => by have h_ := eq_false HNEG.out; first | (go_simp; done) | (go_simp; rfl)⟩) ?_
        simp only [Act.put, Fl.z1, Fl.z2, Fl.z3]
        refine Fl.take (some 20) (v := .bool false) rfl rfl (Or.inl ⟨by rfl, fun _ _ => by rfl⟩) ?_
        simp only [Act.put, Fl.z1, Fl.z2, Fl.z3]
        refine Fl.take (some 21) (v := .pointer (some ⟨g7, 5, none⟩)) rfl rfl (Or.inl ⟨by rfl, fun _ _ => by first | rfl | (go_simp; done) | (go_simp; rfl) | (go_simp; omega)⟩) ?_
        simp only [Act.put, Fl.z1, Fl.z2, Fl.z3]
        refine Fl.take (some 22) (v := .int .i64 u) rfl rfl (Fl.ldc 0 5 rfl (by rfl) _ _ rfl rfl rfl Try.underlying3 rfl) ?_
        simp only [Act.put, Fl.z1, Fl.z2, Fl.z3]
        refine Fl.take (some 23) (v := .int .i64 lst) rfl rfl (Fl.ldc 4 0 rfl (by rfl) _ _ rfl rfl rfl Try.underlying3 rfl) ?_
        simp only [Act.put, Fl.z1, Fl.z2, Fl.z3]
        refine Fl.take (some 24) (v := .bool true) rfl rfl (Or.inl ⟨by rfl, fun _ _ => by have h_ := eq_true HLESS.out; first | (go_simp; done) | (go_simp; rfl)⟩) ?_
        simp only [Act.put, Fl.z1, Fl.z2, Fl.z3]
        refine Fl.take (some 25) (v := .bool true) rfl rfl (Or.inl ⟨by rfl, fun _ _ => by rfl⟩) ?_
        simp only [Act.put, Fl.z1, Fl.z2, Fl.z3]
        refine Fl.stop (fun W hi => ?_)
        replace HI := Lib.hid hi
        clear hi
        replace HI := Lib.hid (Lv.Inv.front (Lv.Inv.front HI.out 4 rfl) 3 rfl)
        replace HI : Hid (Lv.Inv w0 W ([Lv.boxF gB #[bv] 27, Lv.boxF gL #[.int .i64 lst] 3] ++ (Lv.boxF g7 #[m0, .int .i64 a1, .int .i64 a2, .int .i64 a3, .int .i64 a4, .int .i64 u, m6] 38 :: Lv.rowF (Kd.int .i64) 3 w0.heap.size (.slice A ord.length c) ord :: Lv.rowF (Kd.int .i64) 3 w0.heap.size bv bst :: E))) := HI
        go_upto_region 3 with (fail)
        refine Fl.startF (F := [_, _]) [([],[]),([],[]),([0,1],[0,1]),([],[]),([3],[3]),([2,2,0,1,2],[2]),([4,5,0,1,2,3,4,5],[4])] [] 8 [.take 1, .take 3, .take 4, .one 0, .one 2, .one 5, .one 6] [] (by kernel_rfl) (by kernel_rfl) (by decide) (by decide) (by kernel_rfl) (by kernel_rfl) Fl.mk0 HI.out ?_
        refine Fl.take (some 27) (v := .slice A ord.length c) rfl rfl (Or.inl ⟨by rfl, fun _ _ => by rfl⟩) ?_
        simp only [Act.put, Fl.z1, Fl.z2, Fl.z3]
        refine Fl.take (some 29) (v := .pointer (some ⟨g7, 5, none⟩)) rfl rfl (Or.inl ⟨by rfl, fun _ _ => by first | rfl | (go_simp; done) | (go_simp; rfl) | (go_simp; omega)⟩) ?_
        simp only [Act.put, Fl.z1, Fl.z2, Fl.z3]
        refine Fl.take (some 30) (v := .int .i64 u) rfl rfl (Fl.ldc 0 5 rfl (by rfl) _ _ rfl rfl rfl Try.underlying3 rfl) ?_
        simp only [Act.put, Fl.z1, Fl.z2, Fl.z3]
        refine Fl.lay0 (Kd.int .i64) (e := 3) (N := 26) rfl rfl (by rfl) (fun W => by first | (go_simp; done) | (go_simp; rfl)) (fun v0 => ?_)
        simp only [Act.put, Fl.z1, Fl.z2, Fl.z3]
        refine Fl.appP (N := 28) (bytes := 8) (z := .int .i64 0) (ys := ord) (fun _ _ _ _ hk => hk) rfl rfl (by rfl) rfl Try.underlying27 (by kernel_rfl) rfl (by decide) (by decide) rfl rfl (by have := HOL.out; have := H6.out; have := HN.out; simp; omega) (fun W hW => hW.cR 1 rfl) (fun A2 c2 => ?_)
        simp only [Act.put, Fl.z1, Fl.z2, Fl.z3]
        refine Fl.storeC 1 0 (.slice A2 ([] ++ ord).length c2) rfl rfl rfl rfl _ _ _ rfl rfl rfl (by rfl) (by simp) (by kernel_rfl) rfl rfl ?_
        refine Fl.storeC 2 0 (.int .i64 u) rfl rfl rfl rfl _ _ _ rfl rfl rfl (by rfl) (by simp) (by kernel_rfl) rfl rfl ?_
        refine Fl.fin0 ?_
        refine Fl.stopN (fun W hi => ?_)
        replace HI := Lib.hid hi
        clear hi
        have HF := Lib.hid (Lv.Inv.front (Lv.Inv.front (Lv.Inv.front (Lv.Inv.omit (Lv.Inv.omit HI.out 5 rfl) 3 rfl) 3 rfl) 2 rfl) 1 rfl)
        go_wp2
        first | (exact bodyPost_ret (results_none rfl _ _ _) rfl ⟨rfl, _, HF.out⟩) | exact ⟨rfl, _, results_none rfl _ _ _, rfl, _, HF.out⟩
      · rw [if_neg (fun x => x.elim hneg hless)] at h
        obtain ⟨rfl, rfl⟩ := Prod.mk.inj (Option.some.inj h)
        have HLESS := Lib.hid hless
        clear h HH hneg hless heq
        go_upto_region 2 with (fail)
        refine Fl.startL [.take 0, .take 1, .take 2, .take 3, .take 4, .take 5, .take 6, .take 7] (by decide) HI.out ?_
        refine Fl.take (some 18) (v := .int .i64 lst) rfl rfl (Fl.ldc 4 0 rfl (by rfl) _ _ rfl rfl rfl Try.underlying3 rfl) ?_
        simp only [Act.put, Fl.z1, Fl.z2, Fl.z3]
        refine Fl.take (some 19) (v := .bool false) rfl rfl (Or.inl ⟨by rfl, fun _ _ => by have h_ := eq_false HNEG.out; first | (go_simp; done) | (go_simp; rfl)⟩) ?_
        simp only [Act.put, Fl.z1, Fl.z2, Fl.z3]
        refine Fl.take (some 20) (v := .bool false) rfl rfl (Or.inl ⟨by rfl, fun _ _ => by rfl⟩) ?_
        simp only [Act.put, Fl.z1, Fl.z2, Fl.z3]
        refine Fl.take (some 21) (v := .pointer (some ⟨g7, 5, none⟩)) rfl rfl (Or.inl ⟨by rfl, fun _ _ => by first | rfl | (go_simp; done) | (go_simp; rfl) | (go_simp; omega)⟩) ?_
        simp only [Act.put, Fl.z1, Fl.z2, Fl.z3]
        refine Fl.take (some 22) (v := .int .i64 u) rfl rfl (Fl.ldc 0 5 rfl (by rfl) _ _ rfl rfl rfl Try.underlying3 rfl) ?_
        simp only [Act.put, Fl.z1, Fl.z2, Fl.z3]
        refine Fl.take (some 23) (v := .int .i64 lst) rfl rfl (Fl.ldc 4 0 rfl (by rfl) _ _ rfl rfl rfl Try.underlying3 rfl) ?_
        simp only [Act.put, Fl.z1, Fl.z2, Fl.z3]
        refine Fl.take (some 24) (v := .bool false) rfl rfl (Or.inl ⟨by rfl, fun _ _ => by have h_ := eq_false HLESS.out; first | (go_simp; done) | (go_simp; rfl)⟩) ?_
        simp only [Act.put, Fl.z1, Fl.z2, Fl.z3]
        refine Fl.take (some 25) (v := .bool false) rfl rfl (Or.inl ⟨by rfl, fun _ _ => by rfl⟩) ?_
        simp only [Act.put, Fl.z1, Fl.z2, Fl.z3]
        refine Fl.stop (fun W hi => ?_)
        replace HI := Lib.hid hi
        clear hi
        have HF := Lib.hid HI.out.tail
        go_wp2
        first | (exact bodyPost_ret (results_none rfl _ _ _) rfl ⟨rfl, _, HF.out⟩) | exact ⟨rfl, _, results_none rfl _ _ _, rfl, _, HF.out⟩
  · have h := HH.out
    rw [if_neg heq] at h
    have HEQ := Lib.hid (show ¬ (ord.length : Int) = (n : Int) by omega)
    have HLT := Lib.hid (show ord.length < n by have := HOL.out; omega)
    have HST := Lib.hid h
    clear h HH heq
    refine Fl.startL [.take 0, .take 1, .take 2, .take 3, .take 4] (by decide) HI.out ?_
    refine Fl.take (some 13) (v := .slice A ord.length c) rfl rfl (Or.inl ⟨by rfl, fun _ _ => by rfl⟩) ?_
    simp only [Act.put, Fl.z1, Fl.z2, Fl.z3]
    refine Fl.take (some 14) (v := .int .i64 (ord.length : Int)) rfl rfl (Or.inl ⟨by rfl, fun _ _ => by first | rfl | (go_simp; done) | (go_simp; rfl) | (go_simp; omega)⟩) ?_
    simp only [Act.put, Fl.z1, Fl.z2, Fl.z3]
    refine Fl.take (some 15) (v := .slice A1 n c1) rfl rfl (Fl.yieldsIf_load_cell (by rfl) _ _ rfl gS 0 rfl (fun W1 hW1 => (HE.out W1 (Fl.inv_drop (N := [_, _, _, _, _]) hW1)).cell 1 rfl 0 rfl) Try.underlying52 rfl) ?_
    simp only [Act.put, Fl.z1, Fl.z2, Fl.z3]
    refine Fl.take (some 16) (v := .int .i64 (n : Int)) rfl rfl (Or.inl ⟨by rfl, fun _ _ => by first | rfl | (go_simp; done) | (go_simp; rfl) | (go_simp; omega)⟩) ?_
    simp only [Act.put, Fl.z1, Fl.z2, Fl.z3]
    refine Fl.take (some 17) (v := .bool false) rfl rfl (Or.inl ⟨by rfl, fun _ _ => by have h_ := eq_false HEQ.out; first | (go_simp; done) | (go_simp; rfl)⟩) ?_
    simp only [Act.put, Fl.z1, Fl.z2, Fl.z3]
    refine Fl.stop (fun W hi => ?_)
    replace HI := Lib.hid hi
    clear hi
    go_upto_region 4 with (fail)
    refine Fl.startL [.take 0, .take 1, .take 2] (by decide) HI.out ?_
    refine Fl.take (some 31) (v := .slice A1 n c1) rfl rfl (Fl.yieldsIf_load_cell (by rfl) _ _ rfl gS 0 rfl (fun W1 hW1 => (HE.out W1 (Fl.inv_drop (N := [_, _, _, _, _]) hW1)).cell 1 rfl 0 rfl) Try.underlying52 rfl) ?_
    simp only [Act.put, Fl.z1, Fl.z2, Fl.z3]
    refine Fl.take (some 32) (v := .int .i64 (n : Int)) rfl rfl (Or.inl ⟨by rfl, fun _ _ => by first | rfl | (go_simp; done) | (go_simp; rfl) | (go_simp; omega)⟩) ?_
    simp only [Act.put, Fl.z1, Fl.z2, Fl.z3]
    refine Fl.take (some 33) (v := .int .i64 0) rfl rfl (Or.inl ⟨by rfl, fun _ _ => by rfl⟩) ?_
    simp only [Act.put, Fl.z1, Fl.z2, Fl.z3]
    refine Fl.stop (fun W hi => ?_)
    replace HI := Lib.hid hi
    clear hi
    go_wp2
    go_loopg [8, 9, 10, 11, 12, 33] n (fun gg _ _ _ _ _ s33 wr => ∃ (i : Nat) (sb : List Int) (sl : Int) (vb : Value), s33 = .int .i64 (i : Int) ∧ Hid (i ≤ n ∧ n - i ≤ gg) ∧ Hid (impl_BestOrder.loop (fun s i q => (slices_Contains_int_int.f k ord i).bind fun b => if b = true then some s else (impl_BestOrder.gv a1 a2 a3 a4 u q.f0 q.f1).bind fun y => if y.1 = true then impl_BestOrder.dfs k a1 a2 a3 a4 l1 d (ord ++ [i]) y.2 s else some s) (l1.drop i) (i : Int) (sb, sl) = some (bst2, lst2)) ∧ Hid (Lv.Inv w0 wr (Lv.boxF g7 #[m0, .int .i64 a1, .int .i64 a2, .int .i64 a3, .int .i64 a4, .int .i64 u, m6] 38 :: Lv.rowF (Kd.int .i64) 3 w0.heap.size (.slice A ord.length c) ord :: Lv.boxF gB #[vb] 27 :: Lv.rowF (Kd.int .i64) 3 w0.heap.size vb sb :: Lv.boxF gL #[.int .i64 sl] 3 :: E)))
    case atStart => exact ⟨0, bst, lst, bv, rfl, Lib.hid (by omega), HST, HI⟩
    case round =>
      clear HI HST
      obtain ⟨i, sb, sl, vb, rfl, HK, HG, HI⟩ := hrel
      by_cases hlt : i < n
      · obtain ⟨b, o, hA, hrow⟩ := Lx.row_cells (d := k95) (f := fun x : S95 => [.int .i64 x.f0, .int .i64 x.f1]) (fun _ _ _ h => k95_open h) (fun _ => by simp) HR1.out (by have := HN.out; omega)
        obtain ⟨x, hx⟩ : ∃ x, l1[i]? = some x := ⟨_, List.getElem?_eq_getElem (by have := HN.out; omega)⟩
        have HCx : Hid (w0.rangeAt b (o + i * 2) #[.int .i64 x.f0, .int .i64 x.f1].toList) := Lib.hid (hrow i x hx)
        obtain ⟨hxl, hxe⟩ := List.getElem?_eq_some_iff.1 hx
        have hg := HG.out
        rw [List.drop_eq_getElem_cons hxl, hxe, impl_BestOrder.loop] at hg
        obtain ⟨⟨s2b, s2l⟩, hst, hg⟩ := Option.bind_eq_some_iff.mp hg
        obtain ⟨bc, hbc, hst⟩ := Option.bind_eq_some_iff.mp hst
        have HBC := Lib.hid hbc
        have HS := Lib.hid hst
        have HG2 : Hid (impl_BestOrder.loop (fun s i q => (slices_Contains_int_int.f k ord i).bind fun b => if b = true then some s else (impl_BestOrder.gv a1 a2 a3 a4 u q.f0 q.f1).bind fun y => if y.1 = true then impl_BestOrder.dfs k a1 a2 a3 a4 l1 d (ord ++ [i]) y.2 s else some s) (l1.drop (i + 1)) ((i + 1 : Nat) : Int) (s2b, s2l) = some (bst2, lst2)) := Lib.hid hg
        clear hx hxl hxe hrow hg hst hbc HG
        subst hA
        have k0 : (0 : Int) ≤ (i : Int) := by omega
        have k1 : (i : Int) < (n : Int) := by omega
        have k3 : ((n : Int)).toNat ≤ 1048576 := by have := H6.out; have := HN.out; omega
        go_upto_region 6 with (fail)
        refine Fl.startL [.take 0, .take 1, .take 2, .one 3, .take 4, .one 5] (by decide) HI.out ?_
        refine Fl.take (some 35) (v := .int .i64 (i : Int)) rfl rfl (Or.inl ⟨by rfl, fun _ _ => by rfl⟩) ?_
        simp only [Act.put, Fl.z1, Fl.z2, Fl.z3]
        refine Fl.take (some 36) (v := .pointer (some ⟨b, o + i * 2, none⟩)) rfl rfl (Or.inl ⟨by rfl, fun _ _ => by first | rfl | (go_simp; done) | (go_simp; rfl) | (go_simp; omega)⟩) ?_
        simp only [Act.put, Fl.z1, Fl.z2, Fl.z3]
        refine Fl.take (some 37) (v := .agg #[.int .i64 x.f0, .int .i64 x.f1]) rfl rfl (yieldsIf_load_mid (by rfl) 95 _ rfl b (o + i * 2) rfl #[.int .i64 x.f0, .int .i64 x.f1].toList _ (fun W1 hW1 => Lx.range_below HCx.out hW1.bel) Try.underlying95 rfl (by kernel_rfl)) ?_
        simp only [Act.put, Fl.z1, Fl.z2, Fl.z3]
        refine Fl.var (N := 9) (cs := #[.int .i64 0, .int .i64 0]) (t := 95) ⟨_, rfl, rfl, fun _ => rfl, fun e w => by first | (go_simp; done) | (go_simp; rfl)⟩ (fun be => ?_)
        simp only [Act.put, Fl.z1, Fl.z2, Fl.z3]
        refine Fl.take (some 8) (v := .int .i64 (i : Int)) rfl rfl (Or.inl ⟨by rfl, fun _ _ => by rfl⟩) ?_
        simp only [Act.put, Fl.z1, Fl.z2, Fl.z3]
        refine Fl.store 0 #[.int .i64 x.f0, .int .i64 x.f1] rfl rfl rfl rfl _ _ _ rfl rfl rfl (by rfl) rfl (by kernel_rfl) (by simp [Value.oneCell']) ?_
        refine Fl.stop (fun W hi => ?_)
        replace HI := Lib.hid hi
        clear hi
        go_upto_region 7 with (fail)
        refine Fl.startL [.take 0, .take 1, .take 2, .take 3, .take 4, .one 5, .one 6] (by decide) HI.out ?_
        refine Fl.take (some 38) (v := .pointer (some ⟨g7, 1, none⟩)) rfl rfl (Or.inl ⟨by rfl, fun _ _ => by first | rfl | (go_simp; done) | (go_simp; rfl) | (go_simp; omega)⟩) ?_
        simp only [Act.put, Fl.z1, Fl.z2, Fl.z3]
        refine Fl.take (some 39) (v := .agg #[.int .i64 a1, .int .i64 a2, .int .i64 a3, .int .i64 a4]) rfl rfl (Fl.ldP 1 1 #[.int .i64 a1, .int .i64 a2, .int .i64 a3, .int .i64 a4] rfl (by rfl) _ _ rfl rfl rfl Try.underlying36 rfl (by kernel_rfl)) ?_
        simp only [Act.put, Fl.z1, Fl.z2, Fl.z3]
        refine Fl.take (some 40) (v := .pointer (some ⟨g7, 5, none⟩)) rfl rfl (Or.inl ⟨by rfl, fun _ _ => by first | rfl | (go_simp; done) | (go_simp; rfl) | (go_simp; omega)⟩) ?_
        simp only [Act.put, Fl.z1, Fl.z2, Fl.z3]
        refine Fl.take (some 41) (v := .int .i64 u) rfl rfl (Fl.ldc 1 5 rfl (by rfl) _ _ rfl rfl rfl Try.underlying3 rfl) ?_
        simp only [Act.put, Fl.z1, Fl.z2, Fl.z3]
        refine Fl.take (some 42) (v := .agg #[.slice none 0 0, .int .i64 a1, .int .i64 a2, .int .i64 a3, .int .i64 a4, .int .i64 u, .slice none 0 0]) rfl rfl (Or.inl ⟨by rfl, fun _ _ => by first | rfl | (go_simp; done) | (go_simp; rfl) | (go_simp; simp only [i64_w])⟩) ?_
        simp only [Act.put, Fl.z1, Fl.z2, Fl.z3]
        refine Fl.var (N := 10) (cs := #[.slice none 0 0, .int .i64 0, .int .i64 0, .int .i64 0, .int .i64 0, .int .i64 0, .slice none 0 0]) (t := 38) ⟨_, rfl, rfl, fun _ => rfl, fun e w => by first | (go_simp; done) | (go_simp; rfl)⟩ (fun bn => ?_)
        simp only [Act.put, Fl.z1, Fl.z2, Fl.z3]
        refine Fl.store 0 #[.slice none 0 0, .int .i64 a1, .int .i64 a2, .int .i64 a3, .int .i64 a4, .int .i64 u, .slice none 0 0] rfl rfl rfl rfl _ _ _ rfl rfl rfl (by rfl) rfl (by kernel_rfl) (by simp [Value.oneCell']) ?_
        refine Fl.stop (fun W hi => ?_)
        replace HI := Lib.hid hi
        clear hi
        cases bc with
        | true =>
          have hs := HS.out
          rw [if_pos rfl] at hs
          obtain ⟨rfl, rfl⟩ := Prod.mk.inj (Option.some.inj hs)
          clear hs HS
          go_upto_region 8 with (fail)
          refine Fl.startL [.take 0, .take 1, .one 2] (by decide) HI.out ?_
          refine Fl.take (some 43) (v := .slice A ord.length c) rfl rfl (Or.inl ⟨by rfl, fun _ _ => by rfl⟩) ?_
          simp only [Act.put, Fl.z1, Fl.z2, Fl.z3]
          refine Fl.take (some 44) (v := .int .i64 (i : Int)) rfl rfl (Or.inl ⟨by rfl, fun _ _ => by rfl⟩) ?_
          simp only [Act.put, Fl.z1, Fl.z2, Fl.z3]
          refine Fl.call (some 45) Try.func71 (by kernel_rfl) rfl #[.slice A ord.length c, .int .i64 (i : Int)] rfl rfl rfl (by rfl) rfl (fun E2 W hE2 hi => ?_)
          refine (slices_Contains_int_int.calls k _ _ ord (i : Int) true W ((hE2 _ (Fl.inv_drop hi)).cR 3 rfl) ((hE2 _ (Fl.inv_drop hi)).lR 3 rfl) HBC.out).mono ?_
          rintro e W' ⟨rfl, hb⟩
          refine Fl.keep (v := .bool true) hi hb.below ?_
          clear hi hb hE2
          simp only [Act.put, Fl.z1, Fl.z2, Fl.z3]
          refine Fl.stop (fun W hi => ?_)
          replace HI := Lib.hid hi
          clear hi
          have HF := Lib.hid HI.out.tail.tail
          clear HI
          go_wp2
          go_roundg (n - (i + 1))
          case measure => have := HK.out; omega
          case rel => exact ⟨i + 1, sb, sl, vb, by go_num, Lib.hid (by have := HK.out; omega), HG2, HF⟩
        | false =>
          have hs := HS.out
          rw [if_neg (by decide)] at hs
          obtain ⟨⟨ok, u2⟩, hgv, hs⟩ := Option.bind_eq_some_iff.mp hs
          dsimp only at hs
          have HGV := Lib.hid hgv
          clear hgv HS
          go_upto_region 8 with (fail)
          refine Fl.startL [.take 0, .take 1, .one 2] (by decide) HI.out ?_
          refine Fl.take (some 43) (v := .slice A ord.length c) rfl rfl (Or.inl ⟨by rfl, fun _ _ => by rfl⟩) ?_
          simp only [Act.put, Fl.z1, Fl.z2, Fl.z3]
          refine Fl.take (some 44) (v := .int .i64 (i : Int)) rfl rfl (Or.inl ⟨by rfl, fun _ _ => by rfl⟩) ?_
          simp only [Act.put, Fl.z1, Fl.z2, Fl.z3]
          refine Fl.call (some 45) Try.func71 (by kernel_rfl) rfl #[.slice A ord.length c, .int .i64 (i : Int)] rfl rfl rfl (by rfl) rfl (fun E2 W hE2 hi => ?_)
          refine (slices_Contains_int_int.calls k _ _ ord (i : Int) false W ((hE2 _ (Fl.inv_drop hi)).cR 3 rfl) ((hE2 _ (Fl.inv_drop hi)).lR 3 rfl) HBC.out).mono ?_
          rintro e W' ⟨rfl, hb⟩
          refine Fl.keep (v := .bool false) hi hb.below ?_
          clear hi hb hE2
          simp only [Act.put, Fl.z1, Fl.z2, Fl.z3]
          refine Fl.stop (fun W hi => ?_)
          replace HI := Lib.hid hi
          clear hi
          cases ok with
          | false =>
            rw [if_neg (by decide)] at hs
            obtain ⟨rfl, rfl⟩ := Prod.mk.inj (Option.some.inj hs)
            clear hs
            go_upto_region 9 with (fail)
            refine Fl.startW [.one 0, .one 1, .take 2, .take 3, .take 4, .one 5, .one 6, .take 7] (by decide) HI.out ?_
            refine Fl.ldF (some 47) 1 rfl rfl rfl (by rfl) _ _ rfl rfl Try.underlying95 rfl (by kernel_rfl) ?_
            simp only [Act.put, Fl.z1, Fl.z2, Fl.z3]
            refine Fl.call (some 48) Try.func72 (by kernel_rfl) rfl #[.pointer (some ⟨bn, 0, none⟩), .agg #[.int .i64 x.f0, .int .i64 x.f1]] rfl rfl rfl (by rfl) rfl (fun E2 W hE2 hi => ?_)
            refine (impl_BestOrder.give a1 a2 a3 a4 u x.f0 x.f1 false u2 bn w0 W _ hi HGV.out).mono ?_
            rintro e W' ⟨p1, p2, p3, p4, rfl, hi2⟩
            refine Fl.keepI (F := []) (F' := Lv.boxF bn #[.slice none 0 0, .int .i64 a1, .int .i64 a2, .int .i64 a3, .int .i64 a4, .int .i64 u2, .slice none 0 0] 38 :: _) hi2 ?_
            clear hi hi2 hE2
            simp only [Act.put, Fl.z1, Fl.z2, Fl.z3]
            refine Fl.take (some 46) (v := .tuple #[.agg #[.int .i64 p1, .int .i64 p2, .int .i64 p3, .int .i64 p4], .bool false]) rfl rfl (Or.inl ⟨by rfl, fun _ _ => by rfl⟩) ?_
            simp only [Act.put, Fl.z1, Fl.z2, Fl.z3]
            refine Fl.take (some 49) (v := .agg #[.int .i64 p1, .int .i64 p2, .int .i64 p3, .int .i64 p4]) rfl rfl (Or.inl ⟨by rfl, fun _ _ => by rfl⟩) ?_
            simp only [Act.put, Fl.z1, Fl.z2, Fl.z3]
            refine Fl.take (some 50) (v := .bool false) rfl rfl (Or.inl ⟨by rfl, fun _ _ => by rfl⟩) ?_
            simp only [Act.put, Fl.z1, Fl.z2, Fl.z3]
            refine Fl.var (N := 11) (cs := #[.int .i64 0, .int .i64 0, .int .i64 0, .int .i64 0]) (t := 36) ⟨_, rfl, rfl, fun _ => rfl, fun e w => by first | (go_simp; done) | (go_simp; rfl)⟩ (fun bw => ?_)
            simp only [Act.put, Fl.z1, Fl.z2, Fl.z3]
            refine Fl.store 0 #[.int .i64 p1, .int .i64 p2, .int .i64 p3, .int .i64 p4] rfl rfl rfl rfl _ _ _ rfl rfl rfl (by rfl) rfl (by kernel_rfl) (by simp [Value.oneCell']) ?_
            refine Fl.take (some 12) (v := .bool false) rfl rfl (Or.inl ⟨by rfl, fun _ _ => by rfl⟩) ?_
            simp only [Act.put, Fl.z1, Fl.z2, Fl.z3]
            refine Fl.stopW (fun W hi => ?_)
            replace HI := Lib.hid hi
            clear hi
            have HF := Lib.hid HI.out.tail.tail.tail
            clear HI
            go_wp2
            go_roundg (n - (i + 1))
            case measure => have := HK.out; omega
            case rel => exact ⟨i + 1, sb, sl, vb, by go_num, Lib.hid (by have := HK.out; omega), HG2, HF⟩
          | true =>
            rw [if_pos rfl] at hs
            have HS2 := Lib.hid hs
            clear hs
            go_upto_region 9 with (fail)
            refine Fl.startW [.one 0, .one 1, .take 2, .take 3, .take 4, .one 5, .one 6, .take 7] (by decide) HI.out ?_
            refine Fl.ldF (some 47) 1 rfl rfl rfl (by rfl) _ _ rfl rfl Try.underlying95 rfl (by kernel_rfl) ?_
            simp only [Act.put, Fl.z1, Fl.z2, Fl.z3]
            refine Fl.call (some 48) Try.func72 (by kernel_rfl) rfl #[.pointer (some ⟨bn, 0, none⟩), .agg #[.int .i64 x.f0, .int .i64 x.f1]] rfl rfl rfl (by rfl) rfl (fun E2 W hE2 hi => ?_)
            refine (impl_BestOrder.give a1 a2 a3 a4 u x.f0 x.f1 true u2 bn w0 W _ hi HGV.out).mono ?_
            rintro e W' ⟨p1, p2, p3, p4, rfl, hi2⟩
            refine Fl.keepI (F := []) (F' := Lv.boxF bn #[.slice none 0 0, .int .i64 a1, .int .i64 a2, .int .i64 a3, .int .i64 a4, .int .i64 u2, .slice none 0 0] 38 :: _) hi2 ?_
            clear hi hi2 hE2
            simp only [Act.put, Fl.z1, Fl.z2, Fl.z3]
            refine Fl.take (some 46) (v := .tuple #[.agg #[.int .i64 p1, .int .i64 p2, .int .i64 p3, .int .i64 p4], .bool true]) rfl rfl (Or.inl ⟨by rfl, fun _ _ => by rfl⟩) ?_
            simp only [Act.put, Fl.z1, Fl.z2, Fl.z3]
            refine Fl.take (some 49) (v := .agg #[.int .i64 p1, .int .i64 p2, .int .i64 p3, .int .i64 p4]) rfl rfl (Or.inl ⟨by rfl, fun _ _ => by rfl⟩) ?_
            simp only [Act.put, Fl.z1, Fl.z2, Fl.z3]
            refine Fl.take (some 50) (v := .bool true) rfl rfl (Or.inl ⟨by rfl, fun _ _ => by rfl⟩) ?_
            simp only [Act.put, Fl.z1, Fl.z2, Fl.z3]
            refine Fl.var (N := 11) (cs := #[.int .i64 0, .int .i64 0, .int .i64 0, .int .i64 0]) (t := 36) ⟨_, rfl, rfl, fun _ => rfl, fun e w => by first | (go_simp; done) | (go_simp; rfl)⟩ (fun bw => ?_)
            simp only [Act.put, Fl.z1, Fl.z2, Fl.z3]
            refine Fl.store 0 #[.int .i64 p1, .int .i64 p2, .int .i64 p3, .int .i64 p4] rfl rfl rfl rfl _ _ _ rfl rfl rfl (by rfl) rfl (by kernel_rfl) (by simp [Value.oneCell']) ?_
            refine Fl.take (some 12) (v := .bool true) rfl rfl (Or.inl ⟨by rfl, fun _ _ => by rfl⟩) ?_
            simp only [Act.put, Fl.z1, Fl.z2, Fl.z3]
            refine Fl.stopW (fun W hi => ?_)
            replace HI := Lib.hid hi
            clear hi
            replace HI := Lib.hid (Lv.Inv.front (Lv.Inv.front (Lv.Inv.front (Lv.Inv.front HI.out 7 rfl) 7 rfl) 7 rfl) 7 rfl)
            replace HI : Hid (Lv.Inv w0 W ([Lv.rowF (Kd.int .i64) 3 w0.heap.size (.slice A ord.length c) ord, Lv.boxF gB #[vb] 27, Lv.rowF (Kd.int .i64) 3 w0.heap.size vb sb, Lv.boxF gL #[.int .i64 sl] 3] ++ (Lv.boxF bw #[.int .i64 p1, .int .i64 p2, .int .i64 p3, .int .i64 p4] 36 :: Lv.boxF bn #[.slice none 0 0, .int .i64 a1, .int .i64 a2, .int .i64 a3, .int .i64 a4, .int .i64 u2, .slice none 0 0] 38 :: Lv.boxF be #[.int .i64 x.f0, .int .i64 x.f1] 95 :: Lv.boxF g7 #[m0, .int .i64 a1, .int .i64 a2, .int .i64 a3, .int .i64 a4, .int .i64 u, m6] 38 :: E))) := HI
            go_wp2
            go_upto_region 11 with (fail)
            refine Fl.startF (F := [_, _, _, _]) [([],[]),([],[]),([],[]),([2],[2]),([1,3],[1,3]),([],[]),([0,4,5,4],[0,4,5])] [] 8 [.take 0, .take 1, .take 2, .take 5, .one 3, .one 4, .one 6] [] (by kernel_rfl) (by kernel_rfl) (by decide) (by decide) (by kernel_rfl) (by kernel_rfl) Fl.mk0 HI.out ?_
            refine Fl.take (some 52) (v := .func (.func 70) #[] #[.pointer (some ⟨gS, 0, none⟩), .pointer (some ⟨gL, 0, none⟩), .pointer (some ⟨gB, 0, none⟩), .pointer (some ⟨gX, 0, none⟩)]) rfl rfl (Fl.yieldsIf_load_cell (by rfl) _ _ rfl gX 0 rfl (fun W1 hW1 => (HE.out W1 (Fl.inv_drop (N := [_, _, _, _]) hW1)).cell 0 rfl 0 rfl) Try.underlying98 rfl) ?_
            simp only [Act.put, Fl.z1, Fl.z2, Fl.z3]
            refine Fl.take (some 53) (v := .slice A ord.length c) rfl rfl (Or.inl ⟨by rfl, fun _ _ => by rfl⟩) ?_
            simp only [Act.put, Fl.z1, Fl.z2, Fl.z3]
            refine Fl.take (some 54) (v := .int .i64 (i : Int)) rfl rfl (Or.inl ⟨by rfl, fun _ _ => by rfl⟩) ?_
            simp only [Act.put, Fl.z1, Fl.z2, Fl.z3]
            refine Fl.take (some 57) (v := .agg #[.slice none 0 0, .int .i64 a1, .int .i64 a2, .int .i64 a3, .int .i64 a4, .int .i64 u2, .slice none 0 0]) rfl rfl (Fl.ld 1 rfl (by rfl) _ _ rfl rfl Try.underlying38 rfl (by kernel_rfl)) ?_
            simp only [Act.put, Fl.z1, Fl.z2, Fl.z3]
            refine Fl.lit (N := 55) (cs := #[.int .i64 (i : Int)]) (t := 3) (n := 1) rfl rfl (by rfl) (fun w => by first | (go_simp; done) | (go_simp; rfl)) (fun b1 => ?_)
            simp only [Act.put, Fl.z1, Fl.z2, Fl.z3]
            refine Fl.app1 (N := 56) rfl rfl (by rfl) rfl Try.underlying27 (by kernel_rfl) rfl rfl (by have := HLT.out; have := H6.out; have := HN.out; omega) (fun A2 c2 hv => ?_) (fun A2 c2 => ?_)
            · obtain ⟨rfl, rfl⟩ : A = A2 ∧ c = c2 := by injection hv with h1 _ h2; exact ⟨h1, h2⟩
              clear hv
              simp only [Act.put, Fl.z1, Fl.z2, Fl.z3]
              refine Fl.callL (some 58) #[.pointer (some ⟨gS, 0, none⟩), .pointer (some ⟨gL, 0, none⟩), .pointer (some ⟨gB, 0, none⟩), .pointer (some ⟨gX, 0, none⟩)] EG.out #[.slice A (ord.length + 1) c, .agg #[.slice none 0 0, .int .i64 a1, .int .i64 a2, .int .i64 a3, .int .i64 a4, .int .i64 u2, .slice none 0 0]] rfl rfl rfl rfl (by rfl) rfl (fun E2 W hE2 hi => ?_)
              have hj := (Lv.Inv.front (Lv.Inv.front (Lv.Inv.front (Lv.Inv.front hi 4 rfl) 4 rfl) 4 rfl) 3 rfl)
              refine (HIH.out (ord ++ [(i : Int)]) u2 sl sb s2b s2l (.slice A (ord.length + 1) c) vb (.slice none 0 0) (.slice none 0 0) _ W (fun W3 h0 => HE.out W3 (Fl.inv_drop (N := [_, _, _, _]) (hE2 W3 h0.tail))) hj (by have := HLT.out; rw [List.length_append]; simp; omega) HS2.out).mono ?_
              rintro e W' ⟨rfl, bv2, hi2⟩
              have hi3 := hi2.take1 (m := ord.length) (by rw [List.length_append]; omega)
              rw [List.take_left] at hi3
              refine ⟨.tuple #[], [Lv.rowF (Kd.int .i64) 3 w0.heap.size (.slice A ord.length c) ord, Lv.boxF gB #[bv2] 27, Lv.rowF (Kd.int .i64) 3 w0.heap.size bv2 s2b, Lv.boxF gL #[.int .i64 s2l] 3, Lv.boxF b1 #[.int .i64 (i : Int)] 3], rfl, hi3, ?_⟩
              clear hi3
              clear hi hi2 hj hE2
              simp only [Act.put, Fl.z1, Fl.z2, Fl.z3]
              refine Fl.fin0 ?_
              refine Fl.stopN (fun W hi => ?_)
              replace HI := Lib.hid hi
              clear hi
              have HF := Lib.hid (Lv.Inv.front (Lv.Inv.omit (Lv.Inv.omit (Lv.Inv.omit (Lv.Inv.omit HI.out 4 rfl) 4 rfl) 4 rfl) 4 rfl) 4 rfl)
              clear HI
              go_wp2
              go_roundg (n - (i + 1))
              case measure => have := HK.out; omega
              case rel => exact ⟨i + 1, s2b, s2l, bv2, by go_num, Lib.hid (by have := HK.out; omega), HG2, HF⟩
            · simp only [Act.put, Fl.z1, Fl.z2, Fl.z3]
              refine Fl.callL (some 58) #[.pointer (some ⟨gS, 0, none⟩), .pointer (some ⟨gL, 0, none⟩), .pointer (some ⟨gB, 0, none⟩), .pointer (some ⟨gX, 0, none⟩)] EG.out #[.slice A2 (ord.length + 1) c2, .agg #[.slice none 0 0, .int .i64 a1, .int .i64 a2, .int .i64 a3, .int .i64 a4, .int .i64 u2, .slice none 0 0]] rfl rfl rfl rfl (by rfl) rfl (fun E2 W hE2 hi => ?_)
              have hj := (Lv.Inv.front (Lv.Inv.front (Lv.Inv.front (Lv.Inv.front hi 5 rfl) 5 rfl) 5 rfl) 3 rfl)
              refine (HIH.out (ord ++ [(i : Int)]) u2 sl sb s2b s2l (.slice A2 (ord.length + 1) c2) vb (.slice none 0 0) (.slice none 0 0) _ W (fun W3 h0 => HE.out W3 (Fl.inv_drop (N := [_, _, _, _]) (hE2 W3 h0.tail.tail))) hj (by have := HLT.out; rw [List.length_append]; simp; omega) HS2.out).mono ?_
              rintro e W' ⟨rfl, bv2, hi2⟩
              refine ⟨.tuple #[], [Lv.rowF (Kd.int .i64) 3 w0.heap.size (.slice A ord.length c) ord, Lv.boxF gB #[bv2] 27, Lv.rowF (Kd.int .i64) 3 w0.heap.size bv2 s2b, Lv.boxF gL #[.int .i64 s2l] 3, Lv.boxF b1 #[.int .i64 (i : Int)] 3], rfl, (Lv.Inv.front (Lv.Inv.omit hi2 0 rfl) 3 rfl), ?_⟩
              clear hi hi2 hj hE2
              simp only [Act.put, Fl.z1, Fl.z2, Fl.z3]
              refine Fl.fin0 ?_
              refine Fl.stopN (fun W hi => ?_)
              replace HI := Lib.hid hi
              clear hi
              have HF := Lib.hid (Lv.Inv.front (Lv.Inv.omit (Lv.Inv.omit (Lv.Inv.omit (Lv.Inv.omit HI.out 4 rfl) 4 rfl) 4 rfl) 4 rfl) 4 rfl)
              clear HI
              go_wp2
              go_roundg (n - (i + 1))
              case measure => have := HK.out; omega
              case rel => exact ⟨i + 1, s2b, s2l, bv2, by go_num, Lib.hid (by have := HK.out; omega), HG2, HF⟩
      · have hd : l1.drop i = [] := List.drop_eq_nil_of_le (by have := HN.out; omega)
        have hg := HG.out
        rw [hd] at hg
        obtain ⟨rfl, rfl⟩ := Prod.mk.inj (Option.some.inj hg)
        have HF := Lib.hid HI.out.tail
        clear hg hd HG HI
        go_wp2
        first | (exact bodyPost_ret (results_none rfl _ _ _) rfl ⟨rfl, _, HF.out⟩) | exact ⟨rfl, _, results_none rfl _ _ _, rfl, _, HF.out⟩
def impl_BestOrder.f (k : Nat) (l0_0 : List (List Int)) (a0_1 a0_2 a0_3 a0_4 a0_5 : Int) (l0_6 : List Int) (l1 : List S95) : Option (List Int × Bool) := (impl_areAsked.f k l0_0 a0_1 a0_2 a0_3 a0_4 a0_5 l0_6 l1).bind fun t => if t = true then (if l1.length ≤ 6 then (impl_BestOrder.dfs k a0_1 a0_2 a0_3 a0_4 l1 (l1.length + 1) [] a0_5 ([], -1)).bind fun y => some (y.1, decide (y.2 ≥ 0)) else none) else some ([], false)
theorem impl_BestOrder.mono : ∀ a0 a1 a2 a3 a4 a5 a6 a7 k, LeO (impl_BestOrder.f k a0 a1 a2 a3 a4 a5 a6 a7) (impl_BestOrder.f (k + 1) a0 a1 a2 a3 a4 a5 a6 a7) := by
  intro a0 a1 a2 a3 a4 a5 a6 a7 k
  unfold impl_BestOrder.f
  exact LeO.bind (by apply impl_areAsked.mono) (fun _ => LeO.ite (LeO.ite (LeO.bind (impl_BestOrder.dfs_mono k _ _ _ _ _ _ _ _ _) (fun _ => LeO.refl _)) (LeO.refl _)) (LeO.refl _))
set_option maxHeartbeats 4000000 in
set_option maxRecDepth 100000 in
theorem impl_BestOrder.calls (k : Nat) (A0_0 : Option Addr) (c0_0 : Nat) (l0_0 : List (List Int)) (a0_1 a0_2 a0_3 a0_4 a0_5 : Int) (A0_6 : Option Addr) (c0_6 : Nat) (l0_6 : List Int) (A1 : Option Addr) (c1 : Nat) (l1 : List S95) (r1 : List Int) (r2 : Bool) (w : World) (hr0_0 : Kd.C (Kd.slice 5 (Kd.int .u8)) w A0_0 l0_0.length l0_0) (hc0_0 : l0_0.length ≤ c0_0) (hr0_6 : Kd.C (Kd.int .i64) w A0_6 l0_6.length l0_6) (hc0_6 : l0_6.length ≤ c0_6) (hr1 : Kd.C k95 w A1 l1.length l1) (hc1 : l1.length ≤ c1) (h : impl_BestOrder.f k l0_0 a0_1 a0_2 a0_3 a0_4 a0_5 l0_6 l1 = some (r1, r2)) :
    Calls Try.prog 22 #[.agg #[.slice A0_0 l0_0.length c0_0, .int .i64 a0_1, .int .i64 a0_2, .int .i64 a0_3, .int .i64 a0_4, .int .i64 a0_5, .slice A0_6 l0_6.length c0_6], .slice A1 l1.length c1] w fun e w' => ∃ v0_ : Value, e = .returned (.tuple #[v0_, .bool r2]) ∧ Kd.R (Kd.int .i64) 3 w' w.heap.size (fun _ => True) v0_ r1 ∧ Below w.heap.size w w' := by
  have HR0 := Lib.hid hr0_0
  have HC0 := Lib.hid hc0_0
  have HR6 := Lib.hid hr0_6
  have HC6 := Lib.hid hc0_6
  have HR1 := Lib.hid hr1
  have HC1 := Lib.hid hc1
  clear hr0_0 hc0_0 hr0_6 hc0_6 hr1 hc1
  unfold impl_BestOrder.f at h
  obtain ⟨gS, hgS⟩ : ∃ g, g = w.heap.size + 1 := ⟨_, rfl⟩
  obtain ⟨n, hn⟩ : ∃ n, n = l1.length := ⟨_, rfl⟩
  rw [← hn]
  obtain ⟨W0, hW⟩ : ∃ W, W = (w.alloc (.cells #[.slice A0_0 l0_0.length c0_0, .int .i64 a0_1, .int .i64 a0_2, .int .i64 a0_3, .int .i64 a0_4, .int .i64 a0_5, .slice A0_6 l0_6.length c0_6] 38)).alloc (.cells #[.slice A1 n c1] 52) := ⟨_, rfl⟩
  have HI : Hid (Lv.Inv w W0 [Lv.boxF gS #[.slice A1 n c1] 52, Lv.boxF w.heap.size #[.slice A0_0 l0_0.length c0_0, .int .i64 a0_1, .int .i64 a0_2, .int .i64 a0_3, .int .i64 a0_4, .int .i64 a0_5, .slice A0_6 l0_6.length c0_6] 38]) := by
    subst hW hgS
    have := ((Lv.Inv.refl w).box #[.slice A0_0 l0_0.length c0_0, .int .i64 a0_1, .int .i64 a0_2, .int .i64 a0_3, .int .i64 a0_4, .int .i64 a0_5, .slice A0_6 l0_6.length c0_6] 38).box #[.slice A1 n c1] 52
    exact Lib.hid (by simpa using this)
  obtain ⟨t, ht, h⟩ := Option.bind_eq_some_iff.mp h
  have HT := Lib.hid ht
  have HN := Lib.hid hn
  clear ht hn
  go_enter Try.func22, Try.ntmps22
  go_upto_region 1 with (fail)
  rw [← hW, ← hgS]
  clear hW hgS
  cases t with
  | false =>
    rw [if_neg (by decide)] at h
    obtain ⟨rfl, rfl⟩ := Prod.mk.inj (Option.some.inj h)
    clear h
    refine Fl.startL [.take 0, .take 1, .one 2, .take 3] (by decide) HI.out ?_
    refine Fl.take (some 9) (v := .agg #[.slice A0_0 l0_0.length c0_0, .int .i64 a0_1, .int .i64 a0_2, .int .i64 a0_3, .int .i64 a0_4, .int .i64 a0_5, .slice A0_6 l0_6.length c0_6]) rfl rfl (Fl.ld 1 rfl (by rfl) _ _ rfl rfl Try.underlying38 rfl (by kernel_rfl)) ?_
    simp only [Act.put, Fl.z1, Fl.z2, Fl.z3]
    refine Fl.take (some 10) (v := .slice A1 n c1) rfl rfl (Fl.ldc 0 0 rfl (by rfl) _ _ rfl rfl rfl Try.underlying52 rfl) ?_
    simp only [Act.put, Fl.z1, Fl.z2, Fl.z3]
    refine Fl.call (some 11) Try.func69 (by kernel_rfl) rfl #[.agg #[.slice A0_0 l0_0.length c0_0, .int .i64 a0_1, .int .i64 a0_2, .int .i64 a0_3, .int .i64 a0_4, .int .i64 a0_5, .slice A0_6 l0_6.length c0_6], .slice A1 n c1] rfl rfl rfl (by rfl) rfl (fun E W hE hi => ?_)
    have hc_ := impl_areAsked.calls k _ _ l0_0 a0_1 a0_2 a0_3 a0_4 a0_5 _ _ l0_6 _ _ l1 false W (Kd.C_below HR0.out hi.bel) HC0.out (Kd.C_below HR6.out hi.bel) HC6.out (Kd.C_below HR1.out hi.bel) HC1.out HT.out
    rw [← HN.out] at hc_
    refine hc_.mono ?_
    rintro e W' ⟨rfl, hb⟩
    refine Fl.keep (v := .bool false) hi hb ?_
    clear hi hb hE hc_
    simp only [Act.put, Fl.z1, Fl.z2, Fl.z3]
    refine Fl.take (some 12) (v := .bool true) rfl rfl (Or.inl ⟨by rfl, fun _ _ => by rfl⟩) ?_
    simp only [Act.put, Fl.z1, Fl.z2, Fl.z3]
    refine Fl.stop (fun W hi => ?_)
    replace HI := Lib.hid hi
    clear hi
    go_wp2
    go_ret2
    exact ⟨_, rfl, Kd.R_nil _ _ _ _ _, HI.out.bel⟩
  | true =>
    rw [if_pos rfl] at h
    obtain ⟨h6, h⟩ := Lx.of_condO h
    obtain ⟨⟨sb, sl⟩, hd, h⟩ := Option.bind_eq_some_iff.mp h
    have HD := Lib.hid hd
    have H6 := Lib.hid h6
    obtain ⟨rfl, rfl⟩ := Prod.mk.inj (Option.some.inj h)
    clear h h6 hd
    refine Fl.startL [.take 0, .take 1, .one 2, .take 3] (by decide) HI.out ?_
    refine Fl.take (some 9) (v := .agg #[.slice A0_0 l0_0.length c0_0, .int .i64 a0_1, .int .i64 a0_2, .int .i64 a0_3, .int .i64 a0_4, .int .i64 a0_5, .slice A0_6 l0_6.length c0_6]) rfl rfl (Fl.ld 1 rfl (by rfl) _ _ rfl rfl Try.underlying38 rfl (by kernel_rfl)) ?_
    simp only [Act.put, Fl.z1, Fl.z2, Fl.z3]
    refine Fl.take (some 10) (v := .slice A1 n c1) rfl rfl (Fl.ldc 0 0 rfl (by rfl) _ _ rfl rfl rfl Try.underlying52 rfl) ?_
    simp only [Act.put, Fl.z1, Fl.z2, Fl.z3]
    refine Fl.call (some 11) Try.func69 (by kernel_rfl) rfl #[.agg #[.slice A0_0 l0_0.length c0_0, .int .i64 a0_1, .int .i64 a0_2, .int .i64 a0_3, .int .i64 a0_4, .int .i64 a0_5, .slice A0_6 l0_6.length c0_6], .slice A1 n c1] rfl rfl rfl (by rfl) rfl (fun E W hE hi => ?_)
    have hc_ := impl_areAsked.calls k _ _ l0_0 a0_1 a0_2 a0_3 a0_4 a0_5 _ _ l0_6 _ _ l1 true W (Kd.C_below HR0.out hi.bel) HC0.out (Kd.C_below HR6.out hi.bel) HC6.out (Kd.C_below HR1.out hi.bel) HC1.out HT.out
    rw [← HN.out] at hc_
    refine hc_.mono ?_
    rintro e W' ⟨rfl, hb⟩
    refine Fl.keep (v := .bool true) hi hb ?_
    clear hi hb hE hc_
    simp only [Act.put, Fl.z1, Fl.z2, Fl.z3]
    refine Fl.take (some 12) (v := .bool false) rfl rfl (Or.inl ⟨by rfl, fun _ _ => by rfl⟩) ?_
    simp only [Act.put, Fl.z1, Fl.z2, Fl.z3]
    refine Fl.stop (fun W hi => ?_)
    replace HI := Lib.hid hi
    clear hi
    go_upto_region 3 with (fail)
    refine Fl.startL [.one 0, .one 1, .one 2, .one 3] (by decide) HI.out ?_
    refine Fl.var (N := 6) (cs := #[.slice none 0 0]) (t := 27) ⟨_, rfl, rfl, fun _ => rfl, fun e w => by first | (go_simp; done) | (go_simp; rfl)⟩ (fun gB => ?_)
    simp only [Act.put, Fl.z1, Fl.z2, Fl.z3]
    refine Fl.var (N := 7) (cs := #[.int .i64 0]) (t := 3) ⟨_, rfl, rfl, fun _ => rfl, fun e w => by first | (go_simp; done) | (go_simp; rfl)⟩ (fun gL => ?_)
    simp only [Act.put, Fl.z1, Fl.z2, Fl.z3]
    refine Fl.storeC 1 0 (.slice none 0 0) rfl rfl rfl rfl _ _ _ rfl rfl rfl (by rfl) (by simp) (by kernel_rfl) rfl rfl ?_
    refine Fl.storeC 0 0 (.int .i64 (-1)) rfl rfl rfl rfl _ _ _ rfl rfl rfl (by rfl) (by simp) (by kernel_rfl) rfl rfl ?_
    refine Fl.stop (fun W hi => ?_)
    replace HI := Lib.hid hi
    clear hi
    go_upto_region 4 with (fail)
    refine Fl.startL [.one 0] (by decide) HI.out ?_
    refine Fl.var (N := 8) (cs := #[.nilFunc]) (t := 98) ⟨_, rfl, rfl, fun _ => rfl, fun e w => by first | (go_simp; done) | (go_simp; rfl)⟩ (fun gX => ?_)
    simp only [Act.put, Fl.z1, Fl.z2, Fl.z3]
    refine Fl.stop (fun W hi => ?_)
    replace HI := Lib.hid hi
    clear hi
    go_upto_region 5 with (fail)
    refine Fl.startW [.take 0, .one 1] (by decide) HI.out ?_
    refine Fl.take (some 13) (v := .func (.func 70) #[] #[.pointer (some ⟨gS, 0, none⟩), .pointer (some ⟨gL, 0, none⟩), .pointer (some ⟨gB, 0, none⟩), .pointer (some ⟨gX, 0, none⟩)]) rfl rfl (Or.inl ⟨by rfl, fun _ _ => by first | rfl | (go_simp; done) | (go_simp; rfl) | (go_simp; simp only [i64_w])⟩) ?_
    simp only [Act.put, Fl.z1, Fl.z2, Fl.z3]
    refine Fl.storeC 0 0 (.func (.func 70) #[] #[.pointer (some ⟨gS, 0, none⟩), .pointer (some ⟨gL, 0, none⟩), .pointer (some ⟨gB, 0, none⟩), .pointer (some ⟨gX, 0, none⟩)]) rfl rfl rfl rfl _ _ _ rfl rfl rfl (by rfl) (by simp) (by kernel_rfl) rfl rfl ?_
    refine Fl.stopW (fun W hi => ?_)
    replace HI := Lib.hid hi
    clear hi
    have EG := Lib.hid (show ∀ args w, (callFunc 70 args).run Try.prog w = .ok (.enter 70 args) w from Opn.entered Try.func70 (by kernel_rfl) rfl)
    go_upto_region 6 with (fail)
    refine Fl.startW [.one 0, .one 1, .one 2] (by decide) HI.out ?_
    refine Fl.ldXc (some 14) 0 0 rfl rfl rfl (by rfl) _ _ rfl rfl rfl Try.underlying98 rfl ?_
    simp only [Act.put, Fl.z1, Fl.z2, Fl.z3]
    refine Fl.ldF (some 15) 4 rfl rfl rfl (by rfl) _ _ rfl rfl Try.underlying38 rfl (by kernel_rfl) ?_
    simp only [Act.put, Fl.z1, Fl.z2, Fl.z3]
    refine Fl.callL (some 16) #[.pointer (some ⟨gS, 0, none⟩), .pointer (some ⟨gL, 0, none⟩), .pointer (some ⟨gB, 0, none⟩), .pointer (some ⟨gX, 0, none⟩)] EG.out #[.slice none 0 0, .agg #[.slice A0_0 l0_0.length c0_0, .int .i64 a0_1, .int .i64 a0_2, .int .i64 a0_3, .int .i64 a0_4, .int .i64 a0_5, .slice A0_6 l0_6.length c0_6]] rfl rfl rfl rfl (by rfl) rfl (fun E W hE hi => ?_)
    have hj := (Lv.Inv.nilRow ((Lv.Inv.nilRow (Lv.Inv.front hi 1 rfl) (Kd.int .i64) 3 w.heap.size).front 3 rfl) (Kd.int .i64) 3 w.heap.size)
    have hj := Lib.hid (show Lv.Inv w W (Lv.rowF (Kd.int .i64) 3 w.heap.size (.slice none 0 0) ([] : List Int) :: Lv.boxF gB #[.slice none 0 0] 27 :: Lv.rowF (Kd.int .i64) 3 w.heap.size (.slice none 0 0) ([] : List Int) :: Lv.boxF gL #[.int .i64 (-1)] 3 :: (Lv.boxF gX #[.func (.func 70) #[] #[.pointer (some ⟨gS, 0, none⟩), .pointer (some ⟨gL, 0, none⟩), .pointer (some ⟨gB, 0, none⟩), .pointer (some ⟨gX, 0, none⟩)]] 98 :: Lv.boxF gS #[.slice A1 n c1] 52 :: Lv.boxF w.heap.size #[.slice A0_0 l0_0.length c0_0, .int .i64 a0_1, .int .i64 a0_2, .int .i64 a0_3, .int .i64 a0_4, .int .i64 a0_5, .slice A0_6 l0_6.length c0_6] 38 :: E)) from hj)
    refine (impl_BestOrder.ext k a0_1 a0_2 a0_3 a0_4 A1 c1 l1 w HR1.out H6.out gS gL gB gX n HN.out (l1.length + 1) [] a0_5 (-1) [] sb sl (.slice none 0 0) (.slice none 0 0) (.slice A0_0 l0_0.length c0_0) (.slice A0_6 l0_6.length c0_6) _ W (fun W3 h0 => by have h1 : Lv.Inv w W3 (Lv.boxF gX #[.func (.func 70) #[] #[.pointer (some ⟨gS, 0, none⟩), .pointer (some ⟨gL, 0, none⟩), .pointer (some ⟨gB, 0, none⟩), .pointer (some ⟨gX, 0, none⟩)]] 98 :: Lv.boxF gS #[.slice A1 n c1] 52 :: Lv.boxF w.heap.size #[.slice A0_0 l0_0.length c0_0, .int .i64 a0_1, .int .i64 a0_2, .int .i64 a0_3, .int .i64 a0_4, .int .i64 a0_5, .slice A0_6 l0_6.length c0_6] 38 :: E) := h0; exact Fl.inv_perm (Fl.inv_drop (N := E) (Fl.inv_perm (Lv.Inv.omit h1 2 rfl) (List.perm_append_comm (l₁ := [_, _])))) (List.Perm.refl _)) hj.out (Nat.zero_le _) HD.out).mono ?_
    rintro e W' ⟨rfl, bv2, hi2⟩
    refine ⟨.tuple #[], [Lv.rowF (Kd.int .i64) 3 w.heap.size (.slice none 0 0) ([] : List Int), Lv.boxF gB #[bv2] 27, Lv.rowF (Kd.int .i64) 3 w.heap.size bv2 sb, Lv.boxF gL #[.int .i64 sl] 3, Lv.boxF gX #[.func (.func 70) #[] #[.pointer (some ⟨gS, 0, none⟩), .pointer (some ⟨gL, 0, none⟩), .pointer (some ⟨gB, 0, none⟩), .pointer (some ⟨gX, 0, none⟩)]] 98, Lv.boxF gS #[.slice A1 n c1] 52, Lv.boxF w.heap.size #[.slice A0_0 l0_0.length c0_0, .int .i64 a0_1, .int .i64 a0_2, .int .i64 a0_3, .int .i64 a0_4, .int .i64 a0_5, .slice A0_6 l0_6.length c0_6] 38], rfl, hi2, ?_⟩
    clear hi hi2 hj hE
    simp only [Act.put, Fl.z1, Fl.z2, Fl.z3]
    refine Fl.stopW (fun W hi => ?_)
    replace HI := Lib.hid hi
    clear hi
    go_upto_region 7 with (fail)
    refine Fl.start [([],[]),([],[]),([1],[1]),([0,0],[0]),([2,3,0,1,2,3],[2])] [] 6 [.take 0, .take 1, .take 2, .take 3, .take 4] [] (by kernel_rfl) (by kernel_rfl) (by decide) (by decide) (by kernel_rfl) (by kernel_rfl) Fl.mk0 HI.out ?_
    refine Fl.take (some 17) (v := bv2) rfl rfl (Fl.ldc 1 0 rfl (by rfl) _ _ rfl rfl rfl Try.underlying27 rfl) ?_
    simp only [Act.put, Fl.z1, Fl.z2, Fl.z3]
    refine Fl.take (some 18) (v := .int .i64 sl) rfl rfl (Fl.ldc 3 0 rfl (by rfl) _ _ rfl rfl rfl Try.underlying3 rfl) ?_
    simp only [Act.put, Fl.z1, Fl.z2, Fl.z3]
    refine Fl.take (some 19) (v := .bool (decide (sl ≥ 0))) rfl rfl (Or.inl ⟨by rfl, fun _ _ => by first | rfl | (go_simp; done) | (go_simp; rfl)⟩) ?_
    simp only [Act.put, Fl.z1, Fl.z2, Fl.z3]
    refine Fl.take (some 4) (v := bv2) rfl rfl (Or.inl ⟨by rfl, fun _ _ => by rfl⟩) ?_
    simp only [Act.put, Fl.z1, Fl.z2, Fl.z3]
    refine Fl.take (some 5) (v := .bool (decide (sl ≥ 0))) rfl rfl (Or.inl ⟨by rfl, fun _ _ => by rfl⟩) ?_
    simp only [Act.put, Fl.z1, Fl.z2, Fl.z3]
    refine Fl.fin0 ?_
    refine Fl.stopN (fun W hi => ?_)
    replace HI := Lib.hid hi
    clear hi
    go_wp2
    go_ret2
    obtain ⟨S, _, hR⟩ := HI.out.get 2 rfl
    exact ⟨_, rfl, Kd.R_mono hR (fun _ _ => trivial), HI.out.bel⟩

open Go.Proofs.Ytkifenbcepicjab.Cp
/-! ### laws_eqAsked: function 73 -/
def laws_eqAsked.f (a0_0 : Int) (a0_1 : Int) (a1_0 : Int) (a1_1 : Int) : Option (Bool) := if a0_0 = a1_0 then (if a0_1 = a1_1 then (some true) else (some false)) else (some false)
set_option maxHeartbeats 8000000 in
set_option maxRecDepth 100000 in
theorem laws_eqAsked.calls (a0_0 : Int) (a0_1 : Int) (a1_0 : Int) (a1_1 : Int) (r : Bool) (w : World) (h : laws_eqAsked.f a0_0 a0_1 a1_0 a1_1 = some r) :
  Calls Try.prog 73 #[.agg #[.int .i64 a0_0, .int .i64 a0_1], .agg #[.int .i64 a1_0, .int .i64 a1_1]] w fun e w' => e = .returned (.bool r) ∧ Below w.heap.size w w' := by
 have hu95 := Try.underlying95
 have HB := Aside0.mk (Below.refl w.heap.size w)
 have H : (if a0_0 = a1_0 then (if a0_1 = a1_1 then (some true) else (some false)) else (some false)) = some r := h
 clear h
 by_cases c3 : a0_0 = a1_0
 ·rw [if_pos c3] at H
  have c3b0 : (a0_0 == a1_0) = true := beq_iff_eq.mpr c3
  have c3b1 : (a0_0 != a1_0) = false := bne_eq_false_iff_eq.mpr c3
  clear c3
  by_cases c4 : a0_1 = a1_1
  ·rw [if_pos c4] at H
   have c4b0 : (a0_1 == a1_1) = true := beq_iff_eq.mpr c4
   have c4b1 : (a0_1 != a1_1) = false := bne_eq_false_iff_eq.mpr c4
   clear c4
   obtain rfl := Option.some.inj H
   go_enter Try.func73, Try.ntmps73
   go_wp2_with (first | ((with_reducible refine gate_dst (N := 2) rfl ?_); refine box_event ?hg (N := 2) ?hd (cs := #[.int .i64 a0_0, .int .i64 a0_1]) (t := 95) ?hr ?_; (case hd => rfl); (case hg => rfl); (case hr => first | (go_simp; done) | (go_simp; rfl)); intro gb289 hg w5 hbox hb; have BK289 := Aside0.mk (hbox); have GW289 := zge HB hg; have GE289 := zge HB hg; replace HB := zhs HB hb; clear hb hbox hg) | ((with_reducible refine gate_dst (N := 3) rfl ?_); refine box_event ?hg (N := 3) ?hd (cs := #[.int .i64 a1_0, .int .i64 a1_1]) (t := 95) ?hr ?_; (case hd => rfl); (case hg => rfl); (case hr => first | (go_simp; done) | (go_simp; rfl)); intro gb290 hg w6 hbox hb; have BK290 := Aside0.mk (hbox); have GW290 := zge HB hg; have GE290 := zge HB hg; have NB289_290 := znl BK289 hg; have NB290_289 := znr BK289 hg; replace BK289 := zb0 BK289 hb; replace HB := zhs HB hb; clear hb hbox hg; have hnb7 := NB289_290.out; have hnc7 := NB290_289.out; have hcz8_0 := zc0 BK289 0 rfl; have hcz8_1 := zc0 BK289 1 rfl; have hfz8_0 := blk_frozen BK289.out 0; have hfz8_1 := blk_frozen BK289.out 1; have hcz9_0 := zc0 BK290 0 rfl; have hcz9_1 := zc0 BK290 1 rfl; have hfz9_0 := blk_frozen BK290.out 0; have hfz9_1 := blk_frozen BK290.out 1))
   go_ret
   exact ⟨zfr, by repeat (first | exact zh0 HB | refine below_set ?_ GE289.out | refine below_set ?_ GE290.out)⟩
  ·rw [if_neg c4] at H
   have c4b0 : (a0_1 == a1_1) = false := beq_eq_false_iff_ne.mpr c4
   have c4b1 : (a0_1 != a1_1) = true := bne_iff_ne.mpr c4
   obtain rfl := Option.some.inj H
   go_enter Try.func73, Try.ntmps73
   go_wp2_with (first | ((with_reducible refine gate_dst (N := 2) rfl ?_); refine box_event ?hg (N := 2) ?hd (cs := #[.int .i64 a0_0, .int .i64 a0_1]) (t := 95) ?hr ?_; (case hd => rfl); (case hg => rfl); (case hr => first | (go_simp; done) | (go_simp; rfl)); intro gb289 hg w10 hbox hb; have BK289 := Aside0.mk (hbox); have GW289 := zge HB hg; have GE289 := zge HB hg; replace HB := zhs HB hb; clear hb hbox hg) | ((with_reducible refine gate_dst (N := 3) rfl ?_); refine box_event ?hg (N := 3) ?hd (cs := #[.int .i64 a1_0, .int .i64 a1_1]) (t := 95) ?hr ?_; (case hd => rfl); (case hg => rfl); (case hr => first | (go_simp; done) | (go_simp; rfl)); intro gb290 hg w11 hbox hb; have BK290 := Aside0.mk (hbox); have GW290 := zge HB hg; have GE290 := zge HB hg; have NB289_290 := znl BK289 hg; have NB290_289 := znr BK289 hg; replace BK289 := zb0 BK289 hb; replace HB := zhs HB hb; clear hb hbox hg; have hnb12 := NB289_290.out; have hnc12 := NB290_289.out; have hcz13_0 := zc0 BK289 0 rfl; have hcz13_1 := zc0 BK289 1 rfl; have hfz13_0 := blk_frozen BK289.out 0; have hfz13_1 := blk_frozen BK289.out 1; have hcz14_0 := zc0 BK290 0 rfl; have hcz14_1 := zc0 BK290 1 rfl; have hfz14_0 := blk_frozen BK290.out 0; have hfz14_1 := blk_frozen BK290.out 1))
   go_ret
   exact ⟨zfr, by repeat (first | exact zh0 HB | refine below_set ?_ GE289.out | refine below_set ?_ GE290.out)⟩
 ·rw [if_neg c3] at H
  have c3b0 : (a0_0 == a1_0) = false := beq_eq_false_iff_ne.mpr c3
  have c3b1 : (a0_0 != a1_0) = true := bne_iff_ne.mpr c3
  obtain rfl := Option.some.inj H
  go_enter Try.func73, Try.ntmps73
  go_wp2_with (first | ((with_reducible refine gate_dst (N := 2) rfl ?_); refine box_event ?hg (N := 2) ?hd (cs := #[.int .i64 a0_0, .int .i64 a0_1]) (t := 95) ?hr ?_; (case hd => rfl); (case hg => rfl); (case hr => first | (go_simp; done) | (go_simp; rfl)); intro gb289 hg w15 hbox hb; have BK289 := Aside0.mk (hbox); have GW289 := zge HB hg; have GE289 := zge HB hg; replace HB := zhs HB hb; clear hb hbox hg) | ((with_reducible refine gate_dst (N := 3) rfl ?_); refine box_event ?hg (N := 3) ?hd (cs := #[.int .i64 a1_0, .int .i64 a1_1]) (t := 95) ?hr ?_; (case hd => rfl); (case hg => rfl); (case hr => first | (go_simp; done) | (go_simp; rfl)); intro gb290 hg w16 hbox hb; have BK290 := Aside0.mk (hbox); have GW290 := zge HB hg; have GE290 := zge HB hg; have NB289_290 := znl BK289 hg; have NB290_289 := znr BK289 hg; replace BK289 := zb0 BK289 hb; replace HB := zhs HB hb; clear hb hbox hg; have hnb17 := NB289_290.out; have hnc17 := NB290_289.out; have hcz18_0 := zc0 BK289 0 rfl; have hcz18_1 := zc0 BK289 1 rfl; have hfz18_0 := blk_frozen BK289.out 0; have hfz18_1 := blk_frozen BK289.out 1; have hcz19_0 := zc0 BK290 0 rfl; have hcz19_1 := zc0 BK290 1 rfl; have hfz19_0 := blk_frozen BK290.out 0; have hfz19_1 := blk_frozen BK290.out 1))
  go_ret
  exact ⟨zfr, by repeat (first | exact zh0 HB | refine below_set ?_ GE289.out | refine below_set ?_ GE290.out)⟩

open Go.Proofs.Ytkifenbcepicjab.Cp
/-! ### laws_eqAskedS: function 23 -/
def laws_eqAskedS.l0 : Nat → List (S95) → List (S95) → Int → Option (Bool)
 | 0, _, _, _ => none
 | k + 1, x0, x1, x5 => if x5 < (x0.length : Int) then (if 0 ≤ x5 then (if x5 < (x1.length : Int) then ((laws_eqAsked.f ((rd_T95 x0 x5).f0) ((rd_T95 x0 x5).f1) ((rd_T95 x1 x5).f0) ((rd_T95 x1 x5).f1)).bind fun t293 => (if t293 = true then (laws_eqAskedS.l0 k x0 x1 (wrap64 (x5 + 1))) else (some false))) else (none)) else (none)) else (some true)
def laws_eqAskedS.f (k : Nat) (l0 : List (S95)) (l1 : List (S95)) : Option (Bool) := if (l0.length : Int) = (l1.length : Int) then (laws_eqAskedS.l0 k l0 l1 0) else (some false)
theorem laws_eqAskedS.mono_l : ∀ k, (∀ y0 y1 y2, LeO (laws_eqAskedS.l0 k y0 y1 y2) (laws_eqAskedS.l0 (k + 1) y0 y1 y2))
 | 0 => fun _ _ _ r h => by simp [laws_eqAskedS.l0] at h
 | k + 1 => by
  have ih0 := laws_eqAskedS.mono_l k
  ·intro y0 y1 y2
   unfold laws_eqAskedS.l0
   repeat' first
   | (with_reducible exact ih0 _ _ _)
   | (with_reducible exact LeO.refl _)
   | (with_reducible exact LeO.none _)
   | (with_reducible refine LeO.ite ?_ ?_)
   | (with_reducible refine LeO.bind ?_ (fun _ => ?_))
   | exact ih0 _ _ _
   | exact LeO.none _
   | refine LeO.ite ?_ ?_
   | refine LeO.bind ?_ (fun _ => ?_)
theorem laws_eqAskedS.mono : ∀ a0 a1 k, LeO (laws_eqAskedS.f k a0 a1) (laws_eqAskedS.f (k + 1) a0 a1) := by
 intro a0 a1 k
 have ih0 := laws_eqAskedS.mono_l k
 unfold laws_eqAskedS.f
 repeat' first
   | (with_reducible exact ih0 _ _ _)
   | (with_reducible exact LeO.refl _)
   | (with_reducible exact LeO.none _)
   | (with_reducible refine LeO.ite ?_ ?_)
   | (with_reducible refine LeO.bind ?_ (fun _ => ?_))
   | exact ih0 _ _ _
   | exact LeO.none _
   | refine LeO.ite ?_ ?_
   | refine LeO.bind ?_ (fun _ => ?_)
def laws_eqAskedS.T6 : Bool × List (List Nat × List Nat) := (true, [([], []), ([], []), ([0, 1], [0, 1]), ([2], [2]), ([], []), ([], []), ([4, 5], [4, 5]), ([6], [6]), ([3, 7], [3, 7]), ([8], [8])])
def laws_eqAskedS.B6 : List Nat := [0, 0, 3, 7, 0, 0, 48, 112, 255, 511]
theorem laws_eqAskedS.tab6 : rtab .any (opsOf Try.f23 6) = laws_eqAskedS.T6 := by kernel_rfl
theorem laws_eqAskedS.bits6 : waitsOk laws_eqAskedS.T6.2 laws_eqAskedS.B6 = true := by kernel_rfl
set_option maxHeartbeats 8000000 in
set_option maxRecDepth 100000 in
theorem laws_eqAskedS.calls (k : Nat) (A0 : Option Addr) (c0 : Nat) (l0 : List (S95)) (A1 : Option Addr) (c1 : Nat) (l1 : List (S95)) (r : Bool) (w : World) (hr0 : Kd.C k95 w A0 l0.length l0) (hc0 : l0.length ≤ c0) (hr1 : Kd.C k95 w A1 l1.length l1) (hc1 : l1.length ≤ c1) (h : laws_eqAskedS.f k l0 l1 = some r) :
  Calls Try.prog 23 #[.slice A0 l0.length c0, .slice A1 l1.length c1] w fun e w' => e = .returned (.bool r) ∧ Below w.heap.size w w' := by
 have hu95 := Try.underlying95
 have HR0 := Aside0.mk hr0
 have HC0 := Aside0.mk hc0
 clear hr0 hc0
 have HR1 := Aside0.mk hr1
 have HC1 := Aside0.mk hc1
 clear hr1 hc1
 have HB := Aside0.mk (Below.refl w.heap.size w)
 have H : (if (l0.length : Int) = (l1.length : Int) then (laws_eqAskedS.l0 k l0 l1 0) else (some false)) = some r := h
 clear h
 by_cases c3 : (l0.length : Int) = (l1.length : Int)
 ·rw [if_pos c3] at H
  have c3b0 : ((l0.length : Int) == (l1.length : Int)) = true := beq_iff_eq.mpr c3
  have c3b1 : ((l0.length : Int) != (l1.length : Int)) = false := bne_eq_false_iff_eq.mpr c3
  have c3b2 : (l0.length == l1.length) = true := by first | simpa using c3 | (simp at c3 ⊢; omega)
  clear c3
  have H' := Aside0.mk H
  clear H
  go_enter Try.func23, Try.ntmps23
  go_wp2
  go_loopg [5] k (fun kq v5 w' => ∃ (x5_1 : Int), v5 = .int .i64 x5_1 ∧ Aside0 (laws_eqAskedS.l0 kq l0 l1 x5_1 = some r) ∧ Aside0 (kq ≤ k) ∧ Aside0 (Below w.heap.size w w'))
  case atStart => exact ⟨(0), zfs, H', ⟨Nat.le_refl _⟩, ⟨by repeat (first | exact zh0 HB)⟩⟩
  case round =>
   clear H'
   try clear c1
   try clear c2
   try clear p2
   try clear c3
   try clear c3b0
   try clear c3b1
   try clear c3b2
   obtain ⟨x5_1, rfl, HA, HK1, HB⟩ := hrel
   cases gk with
   | zero => exact absurd HA.out (by simp [laws_eqAskedS.l0])
   | succ k1 =>
    have H := HA.out
    clear HA
    simp only [laws_eqAskedS.l0] at H
    by_cases c4 : x5_1 < (l0.length : Int)
    ·rw [if_pos c4] at H
     have c4b0 : decide (x5_1 < (l0.length : Int)) = true := decide_eq_true c4
     clear c4
     by_cases c5 : 0 ≤ x5_1
     ·rw [if_pos c5] at H
      have c5b0 : decide (0 ≤ x5_1) = true := decide_eq_true c5
      clear c5
      by_cases c6 : x5_1 < (l1.length : Int)
      ·rw [if_pos c6] at H
       have c6b0 : decide (x5_1 < (l1.length : Int)) = true := decide_eq_true c6
       clear c6
       replace H := Option.bind_eq_some_iff.mp H
       obtain ⟨t293, A70, H⟩ := H
       replace H : (if t293 = true then (laws_eqAskedS.l0 k1 l0 l1 (wrap64 (x5_1 + 1))) else (some false)) = some r := H
       have A7 := Aside0.mk A70
       clear A70
       by_cases c8 : t293 = true
       ·subst c8
        have H1 : (laws_eqAskedS.l0 k1 l0 l1 (wrap64 (x5_1 + 1))) = some r := by rw [if_pos rfl] at H; exact H
        clear H
        have H := H1
        clear H1
        have H' := Aside0.mk H
        clear H
        try go_wp2
        replace HB := Aside0.mk (below_drew1 HB.out)
        have p291 : 0 ≤ (x5_1 : Int) := zod
        have q291 : x5_1 < (l0.length : Int) := zod
        obtain ⟨ad291, e291, hx291_0, hx291_1⟩ := at_T95 HR0.out x5_1 p291 q291
        have hw291_1 := hx291_1
        have hw291_0 := hx291_0
        cases e291
        replace hx291_0 := (HB.out.cell (World.block_lt_of_cell? w _ hx291_0)).trans hx291_0
        replace hx291_1 := (HB.out.cell (World.block_lt_of_cell? w _ hx291_1)).trans hx291_1
        replace p291 := eq_true p291
        replace q291 := eq_true q291
        have p292 : 0 ≤ (x5_1 : Int) := zod
        have q292 : x5_1 < (l1.length : Int) := zod
        obtain ⟨ad292, e292, hx292_0, hx292_1⟩ := at_T95 HR1.out x5_1 p292 q292
        have hw292_1 := hx292_1
        have hw292_0 := hx292_0
        cases e292
        replace hx292_0 := (HB.out.cell (World.block_lt_of_cell? w _ hx292_0)).trans hx292_0
        replace hx292_1 := (HB.out.cell (World.block_lt_of_cell? w _ hx292_1)).trans hx292_1
        replace p292 := eq_true p292
        replace q292 := eq_true q292
        refine start_ (n := 10) (S := fun w' => w'.cell? (ad291.add ((x5_1).toNat * 2)) = some (.int .i64 ((rd_T95 l0 x5_1).f0)) ∧ w'.cell? ⟨(ad291.add ((x5_1).toNat * 2)).block, (ad291.add ((x5_1).toNat * 2)).off + 1, none⟩ = some (.int .i64 ((rd_T95 l0 x5_1).f1)) ∧ w'.cell? (ad292.add ((x5_1).toNat * 2)) = some (.int .i64 ((rd_T95 l1 x5_1).f0)) ∧ w'.cell? ⟨(ad292.add ((x5_1).toNat * 2)).block, (ad292.add ((x5_1).toNat * 2)).off + 1, none⟩ = some (.int .i64 ((rd_T95 l1 x5_1).f1))) (ds := []) #[zF, zF, zF, zF, zF, zF, zF, zF, zF, zF] (by kernel_rfl) rfl rfl ⟨((HB.out.cell (World.block_lt_of_cell? w _ hw291_0)).trans hw291_0), ((HB.out.cell (World.block_lt_of_cell? w _ hw291_1)).trans hw291_1), ((HB.out.cell (World.block_lt_of_cell? w _ hw292_0)).trans hw292_0), ((HB.out.cell (World.block_lt_of_cell? w _ hw292_1)).trans hw292_1)⟩ (fun hHeld => ?_); refine with_tabW laws_eqAskedS.tab6 laws_eqAskedS.bits6 (fun HT_ HW_ => ?_)
        generalize wr.drew = w9 at HB hx291_0 hx291_1 hx292_0 hx292_1 hHeld ⊢
        refine pure_ (i := 0) (N := some 17) (v := ?_) (a' := ?_) #[zT, zF, zF, zF, zF, zF, zF, zF, zF, zF] rfl rfl (any_of HT_.out (by kernel_rfl)) (fun _ _ _ h => h) (Or.inl ⟨by rfl, ?_⟩) ?_ ?_
        rotate_left
        ·intro w'
         go_simp
         with_reducible rfl
        rotate_left
        ·simp only [Act.put, zp1, zp2, zp3, i64_w, i32_w]
         rfl
        refine pure_ (i := 1) (N := some 18) (v := ?_) (a' := ?_) #[zT, zT, zF, zF, zF, zF, zF, zF, zF, zF] rfl rfl (any_of HT_.out (by kernel_rfl)) (fun _ _ _ h => h) (Or.inl ⟨by rfl, ?_⟩) ?_ ?_
        rotate_left
        ·intro w'
         go_simp
         with_reducible rfl
        rotate_left
        ·simp only [Act.put, zp1, zp2, zp3, i64_w, i32_w]
         rfl
        refine pure_ (i := 2) (N := some 19) (v := ?_) (a' := ?_) #[zT, zT, zT, zF, zF, zF, zF, zF, zF, zF] rfl rfl (any_of HT_.out (by kernel_rfl)) (fun _ _ _ h => h) (Or.inl ⟨by rfl, ?_⟩) ?_ ?_
        rotate_left
        ·intro w'
         go_simp
         with_reducible rfl
        rotate_left
        ·simp only [Act.put, zp1, zp2, zp3, i64_w, i32_w]
         rfl
        refine pure_ (i := 4) (N := some 21) (v := ?_) (a' := ?_) #[zT, zT, zT, zF, zT, zF, zF, zF, zF, zF] rfl rfl (any_of HT_.out (by kernel_rfl)) (fun _ _ _ h => h) (Or.inl ⟨by rfl, ?_⟩) ?_ ?_
        rotate_left
        ·intro w'
         go_simp
         with_reducible rfl
        rotate_left
        ·simp only [Act.put, zp1, zp2, zp3, i64_w, i32_w]
         rfl
        refine pure_ (i := 5) (N := some 22) (v := ?_) (a' := ?_) #[zT, zT, zT, zF, zT, zT, zF, zF, zF, zF] rfl rfl (any_of HT_.out (by kernel_rfl)) (fun _ _ _ h => h) (Or.inl ⟨by rfl, ?_⟩) ?_ ?_
        rotate_left
        ·intro w'
         go_simp
         with_reducible rfl
        rotate_left
        ·simp only [Act.put, zp1, zp2, zp3, i64_w, i32_w]
         rfl
        refine pure_ (i := 6) (N := some 23) (v := ?_) (a' := ?_) #[zT, zT, zT, zF, zT, zT, zT, zF, zF, zF] rfl rfl (any_of HT_.out (by kernel_rfl)) (fun _ _ _ h => h) (Or.inl ⟨by rfl, ?_⟩) ?_ ?_
        rotate_left
        ·intro w'
         go_simp
         with_reducible rfl
        rotate_left
        ·simp only [Act.put, zp1, zp2, zp3, i64_w, i32_w]
         rfl
        refine take_ (i := 3) (N := some 20) (v := ?_) (a' := ?_) #[zT, zT, zT, zT, zT, zT, zT, zF, zF, zF] rfl rfl (take_ofW HT_.out HW_.out (by kernel_rfl)) (fun _ _ _ h => h) (Or.inl ⟨by rfl, ?_⟩) hHeld ?_ ?_
        rotate_left
        ·rintro w' ⟨s0, s1, s2, s3⟩
         go_simp
         with_reducible rfl
        rotate_left
        ·simp only [Act.put, zp1, zp2, zp3, i64_w, i32_w]
         rfl
        refine take_ (i := 7) (N := some 24) (v := ?_) (a' := ?_) #[zT, zT, zT, zT, zT, zT, zT, zT, zF, zF] rfl rfl (take_ofW HT_.out HW_.out (by kernel_rfl)) (fun _ _ _ h => h) (Or.inl ⟨by rfl, ?_⟩) hHeld ?_ ?_
        rotate_left
        ·rintro w' ⟨s0, s1, s2, s3⟩
         go_simp
         with_reducible rfl
        rotate_left
        ·simp only [Act.put, zp1, zp2, zp3, i64_w, i32_w]
         rfl
        refine one_ (i := 8) (N := some 25) #[zT, zT, zT, zT, zT, zT, zT, zT, zT, zF] rfl rfl (one_of HT_.out (by kernel_rfl)) (by decide) (fun K hK => ?_)
        refine goes_ Try.func73 (by kernel_rfl) rfl #[.agg #[.int .i64 ((rd_T95 l0 x5_1).f0), .int .i64 ((rd_T95 l0 x5_1).f1)], .agg #[.int .i64 ((rd_T95 l1 x5_1).f0), .int .i64 ((rd_T95 l1 x5_1).f1)]] (by rfl) rfl rfl (by (try simp only [zq1, zq2, zq3]); first | done | rfl | (simp only [List.length_drop, List.length_take]; rfl)) ?_
        with_reducible refine (laws_eqAsked.calls ((rd_T95 l0 x5_1).f0) ((rd_T95 l0 x5_1).f1) ((rd_T95 l1 x5_1).f0) ((rd_T95 l1 x5_1).f1) true _ A7.out).mono ?_
        rintro e w10 ⟨rfl, hb⟩
        refine ⟨_, rfl, ?_⟩
        replace HB := zhs HB hb
        (try clear hb)
        refine hK.out _ _ ⟨((HB.out.cell (World.block_lt_of_cell? w _ hw291_0)).trans hw291_0), ((HB.out.cell (World.block_lt_of_cell? w _ hw291_1)).trans hw291_1), ((HB.out.cell (World.block_lt_of_cell? w _ hw292_0)).trans hw292_0), ((HB.out.cell (World.block_lt_of_cell? w _ hw292_1)).trans hw292_1)⟩ (fun hHeld => ?_)
        clear hK K
        refine norm_ (a' := ?_) ?_ ?_
        rotate_left
        ·show Act.put _ (some 25) _ = _
         simp only [Act.put, zp1, zp2, zp3, i64_w, i32_w]
         rfl
        refine pure_ (i := 9) (N := some 26) (v := ?_) (a' := ?_) #[zT, zT, zT, zT, zT, zT, zT, zT, zT, zT] rfl rfl (any_of HT_.out (by kernel_rfl)) (fun _ _ _ h => h) (Or.inl ⟨by rfl, ?_⟩) ?_ ?_
        rotate_left
        ·intro w'
         go_simp
         with_reducible rfl
        rotate_left
        ·simp only [Act.put, zp1, zp2, zp3, i64_w, i32_w]
         rfl
        refine done_ (done_of HT_.out (by kernel_rfl)) ?_
        try go_wp2
        go_roundg k1
        case measure => have := HK1.out; omega
        case rel => exact ⟨(wrap64 (x5_1 + 1)), zfs, H', ⟨by have := HK1.out; omega⟩, ⟨by repeat (first | exact zh0 HB)⟩⟩
       ·replace c8 := Bool.eq_false_iff.mpr c8
        subst c8
        have H1 : (some false) = some r := by rw [if_neg (show ¬ (false = true) by decide)] at H; exact H
        clear H
        have H := H1
        clear H1
        obtain rfl := Option.some.inj H
        try go_wp2
        replace HB := Aside0.mk (below_drew1 HB.out)
        have p291 : 0 ≤ (x5_1 : Int) := zod
        have q291 : x5_1 < (l0.length : Int) := zod
        obtain ⟨ad291, e291, hx291_0, hx291_1⟩ := at_T95 HR0.out x5_1 p291 q291
        have hw291_1 := hx291_1
        have hw291_0 := hx291_0
        cases e291
        replace hx291_0 := (HB.out.cell (World.block_lt_of_cell? w _ hx291_0)).trans hx291_0
        replace hx291_1 := (HB.out.cell (World.block_lt_of_cell? w _ hx291_1)).trans hx291_1
        replace p291 := eq_true p291
        replace q291 := eq_true q291
        have p292 : 0 ≤ (x5_1 : Int) := zod
        have q292 : x5_1 < (l1.length : Int) := zod
        obtain ⟨ad292, e292, hx292_0, hx292_1⟩ := at_T95 HR1.out x5_1 p292 q292
        have hw292_1 := hx292_1
        have hw292_0 := hx292_0
        cases e292
        replace hx292_0 := (HB.out.cell (World.block_lt_of_cell? w _ hx292_0)).trans hx292_0
        replace hx292_1 := (HB.out.cell (World.block_lt_of_cell? w _ hx292_1)).trans hx292_1
        replace p292 := eq_true p292
        replace q292 := eq_true q292
        refine start_ (n := 10) (S := fun w' => w'.cell? (ad291.add ((x5_1).toNat * 2)) = some (.int .i64 ((rd_T95 l0 x5_1).f0)) ∧ w'.cell? ⟨(ad291.add ((x5_1).toNat * 2)).block, (ad291.add ((x5_1).toNat * 2)).off + 1, none⟩ = some (.int .i64 ((rd_T95 l0 x5_1).f1)) ∧ w'.cell? (ad292.add ((x5_1).toNat * 2)) = some (.int .i64 ((rd_T95 l1 x5_1).f0)) ∧ w'.cell? ⟨(ad292.add ((x5_1).toNat * 2)).block, (ad292.add ((x5_1).toNat * 2)).off + 1, none⟩ = some (.int .i64 ((rd_T95 l1 x5_1).f1))) (ds := []) #[zF, zF, zF, zF, zF, zF, zF, zF, zF, zF] (by kernel_rfl) rfl rfl ⟨((HB.out.cell (World.block_lt_of_cell? w _ hw291_0)).trans hw291_0), ((HB.out.cell (World.block_lt_of_cell? w _ hw291_1)).trans hw291_1), ((HB.out.cell (World.block_lt_of_cell? w _ hw292_0)).trans hw292_0), ((HB.out.cell (World.block_lt_of_cell? w _ hw292_1)).trans hw292_1)⟩ (fun hHeld => ?_); refine with_tabW laws_eqAskedS.tab6 laws_eqAskedS.bits6 (fun HT_ HW_ => ?_)
        generalize wr.drew = w11 at HB hx291_0 hx291_1 hx292_0 hx292_1 hHeld ⊢
        refine pure_ (i := 0) (N := some 17) (v := ?_) (a' := ?_) #[zT, zF, zF, zF, zF, zF, zF, zF, zF, zF] rfl rfl (any_of HT_.out (by kernel_rfl)) (fun _ _ _ h => h) (Or.inl ⟨by rfl, ?_⟩) ?_ ?_
        rotate_left
        ·intro w'
         go_simp
         with_reducible rfl
        rotate_left
        ·simp only [Act.put, zp1, zp2, zp3, i64_w, i32_w]
         rfl
        refine pure_ (i := 1) (N := some 18) (v := ?_) (a' := ?_) #[zT, zT, zF, zF, zF, zF, zF, zF, zF, zF] rfl rfl (any_of HT_.out (by kernel_rfl)) (fun _ _ _ h => h) (Or.inl ⟨by rfl, ?_⟩) ?_ ?_
        rotate_left
        ·intro w'
         go_simp
         with_reducible rfl
        rotate_left
        ·simp only [Act.put, zp1, zp2, zp3, i64_w, i32_w]
         rfl
        refine pure_ (i := 2) (N := some 19) (v := ?_) (a' := ?_) #[zT, zT, zT, zF, zF, zF, zF, zF, zF, zF] rfl rfl (any_of HT_.out (by kernel_rfl)) (fun _ _ _ h => h) (Or.inl ⟨by rfl, ?_⟩) ?_ ?_
        rotate_left
        ·intro w'
         go_simp
         with_reducible rfl
        rotate_left
        ·simp only [Act.put, zp1, zp2, zp3, i64_w, i32_w]
         rfl
        refine pure_ (i := 4) (N := some 21) (v := ?_) (a' := ?_) #[zT, zT, zT, zF, zT, zF, zF, zF, zF, zF] rfl rfl (any_of HT_.out (by kernel_rfl)) (fun _ _ _ h => h) (Or.inl ⟨by rfl, ?_⟩) ?_ ?_
        rotate_left
        ·intro w'
         go_simp
         with_reducible rfl
        rotate_left
        ·simp only [Act.put, zp1, zp2, zp3, i64_w, i32_w]
         rfl
        refine pure_ (i := 5) (N := some 22) (v := ?_) (a' := ?_) #[zT, zT, zT, zF, zT, zT, zF, zF, zF, zF] rfl rfl (any_of HT_.out (by kernel_rfl)) (fun _ _ _ h => h) (Or.inl ⟨by rfl, ?_⟩) ?_ ?_
        rotate_left
        ·intro w'
         go_simp
         with_reducible rfl
        rotate_left
        ·simp only [Act.put, zp1, zp2, zp3, i64_w, i32_w]
         rfl
        refine pure_ (i := 6) (N := some 23) (v := ?_) (a' := ?_) #[zT, zT, zT, zF, zT, zT, zT, zF, zF, zF] rfl rfl (any_of HT_.out (by kernel_rfl)) (fun _ _ _ h => h) (Or.inl ⟨by rfl, ?_⟩) ?_ ?_
        rotate_left
        ·intro w'
         go_simp
         with_reducible rfl
        rotate_left
        ·simp only [Act.put, zp1, zp2, zp3, i64_w, i32_w]
         rfl
        refine take_ (i := 3) (N := some 20) (v := ?_) (a' := ?_) #[zT, zT, zT, zT, zT, zT, zT, zF, zF, zF] rfl rfl (take_ofW HT_.out HW_.out (by kernel_rfl)) (fun _ _ _ h => h) (Or.inl ⟨by rfl, ?_⟩) hHeld ?_ ?_
        rotate_left
        ·rintro w' ⟨s0, s1, s2, s3⟩
         go_simp
         with_reducible rfl
        rotate_left
        ·simp only [Act.put, zp1, zp2, zp3, i64_w, i32_w]
         rfl
        refine take_ (i := 7) (N := some 24) (v := ?_) (a' := ?_) #[zT, zT, zT, zT, zT, zT, zT, zT, zF, zF] rfl rfl (take_ofW HT_.out HW_.out (by kernel_rfl)) (fun _ _ _ h => h) (Or.inl ⟨by rfl, ?_⟩) hHeld ?_ ?_
        rotate_left
        ·rintro w' ⟨s0, s1, s2, s3⟩
         go_simp
         with_reducible rfl
        rotate_left
        ·simp only [Act.put, zp1, zp2, zp3, i64_w, i32_w]
         rfl
        refine one_ (i := 8) (N := some 25) #[zT, zT, zT, zT, zT, zT, zT, zT, zT, zF] rfl rfl (one_of HT_.out (by kernel_rfl)) (by decide) (fun K hK => ?_)
        refine goes_ Try.func73 (by kernel_rfl) rfl #[.agg #[.int .i64 ((rd_T95 l0 x5_1).f0), .int .i64 ((rd_T95 l0 x5_1).f1)], .agg #[.int .i64 ((rd_T95 l1 x5_1).f0), .int .i64 ((rd_T95 l1 x5_1).f1)]] (by rfl) rfl rfl (by (try simp only [zq1, zq2, zq3]); first | done | rfl | (simp only [List.length_drop, List.length_take]; rfl)) ?_
        with_reducible refine (laws_eqAsked.calls ((rd_T95 l0 x5_1).f0) ((rd_T95 l0 x5_1).f1) ((rd_T95 l1 x5_1).f0) ((rd_T95 l1 x5_1).f1) false _ A7.out).mono ?_
        rintro e w12 ⟨rfl, hb⟩
        refine ⟨_, rfl, ?_⟩
        replace HB := zhs HB hb
        (try clear hb)
        refine hK.out _ _ ⟨((HB.out.cell (World.block_lt_of_cell? w _ hw291_0)).trans hw291_0), ((HB.out.cell (World.block_lt_of_cell? w _ hw291_1)).trans hw291_1), ((HB.out.cell (World.block_lt_of_cell? w _ hw292_0)).trans hw292_0), ((HB.out.cell (World.block_lt_of_cell? w _ hw292_1)).trans hw292_1)⟩ (fun hHeld => ?_)
        clear hK K
        refine norm_ (a' := ?_) ?_ ?_
        rotate_left
        ·show Act.put _ (some 25) _ = _
         simp only [Act.put, zp1, zp2, zp3, i64_w, i32_w]
         rfl
        refine pure_ (i := 9) (N := some 26) (v := ?_) (a' := ?_) #[zT, zT, zT, zT, zT, zT, zT, zT, zT, zT] rfl rfl (any_of HT_.out (by kernel_rfl)) (fun _ _ _ h => h) (Or.inl ⟨by rfl, ?_⟩) ?_ ?_
        rotate_left
        ·intro w'
         go_simp
         with_reducible rfl
        rotate_left
        ·simp only [Act.put, zp1, zp2, zp3, i64_w, i32_w]
         rfl
        refine done_ (done_of HT_.out (by kernel_rfl)) ?_
        try go_wp2
        go_ret
        exact ⟨zfr, by repeat (first | exact zh0 HB)⟩
      ·rw [if_neg c6] at H
       exact absurd H (by simp)
     ·rw [if_neg c5] at H
      exact absurd H (by simp)
    ·rw [if_neg c4] at H
     have c4b0 : decide (x5_1 < (l0.length : Int)) = false := decide_eq_false c4
     clear c4
     obtain rfl := Option.some.inj H
     go_wp2
     go_ret
     exact ⟨zfr, by repeat (first | exact zh0 HB)⟩
 ·rw [if_neg c3] at H
  have c3b0 : ((l0.length : Int) == (l1.length : Int)) = false := beq_eq_false_iff_ne.mpr c3
  have c3b1 : ((l0.length : Int) != (l1.length : Int)) = true := bne_iff_ne.mpr c3
  have c3b2 : (l0.length == l1.length) = false := by first | simpa using c3 | (simp at c3 ⊢; omega)
  obtain rfl := Option.some.inj H
  go_enter Try.func23, Try.ntmps23
  go_wp2
  go_ret
  exact ⟨zfr, by repeat (first | exact zh0 HB)⟩

open Go.Proofs.Ytkifenbcepicjab.Cp
/-! ### laws_markAskedS: function 24 -/
def laws_markAskedS.l0 : Nat → List (S95) → Int → Int → Option (Int × (List (S95)))
 | 0, _, _, _ => none
 | k + 1, x0, x1, x5 => if x5 < (x0.length : Int) then (if 0 ≤ x5 then ((some (x0.set (x5 : Int).toNat (⟨x1, (rd_T95 x0 x5).f1⟩ : S95) : List (S95))).bind fun y294 => (laws_markAskedS.l0 k (y294.set (x5 : Int).toNat (⟨(rd_T95 y294 x5).f0, wrap64 (x1 + 1)⟩ : S95)) (wrap64 ((wrap64 (x1 + 1)) + 1)) (wrap64 (x5 + 1)))) else (none)) else (some (x1, x0))
def laws_markAskedS.f (k : Nat) (l0 : List (S95)) (a1 : Int) : Option (Int × (List (S95))) := laws_markAskedS.l0 k l0 a1 0
theorem laws_markAskedS.mono_l : ∀ k, (∀ y0 y1 y2, LeO (laws_markAskedS.l0 k y0 y1 y2) (laws_markAskedS.l0 (k + 1) y0 y1 y2))
 | 0 => fun _ _ _ r h => by simp [laws_markAskedS.l0] at h
 | k + 1 => by
  have ih0 := laws_markAskedS.mono_l k
  ·intro y0 y1 y2
   unfold laws_markAskedS.l0
   repeat' first
   | (with_reducible exact ih0 _ _ _)
   | (with_reducible exact LeO.refl _)
   | (with_reducible exact LeO.none _)
   | (with_reducible refine LeO.ite ?_ ?_)
   | (with_reducible refine LeO.bind ?_ (fun _ => ?_))
   | exact ih0 _ _ _
   | exact LeO.none _
   | refine LeO.ite ?_ ?_
   | refine LeO.bind ?_ (fun _ => ?_)
theorem laws_markAskedS.mono : ∀ a0 a1 k, LeO (laws_markAskedS.f k a0 a1) (laws_markAskedS.f (k + 1) a0 a1) := by
 intro a0 a1 k
 have ih0 := laws_markAskedS.mono_l k
 unfold laws_markAskedS.f
 repeat' first
   | (with_reducible exact ih0 _ _ _)
   | (with_reducible exact LeO.refl _)
   | (with_reducible exact LeO.none _)
   | (with_reducible refine LeO.ite ?_ ?_)
   | (with_reducible refine LeO.bind ?_ (fun _ => ?_))
   | exact ih0 _ _ _
   | exact LeO.none _
   | refine LeO.ite ?_ ?_
   | refine LeO.bind ?_ (fun _ => ?_)
set_option maxHeartbeats 8000000 in
set_option maxRecDepth 100000 in
theorem laws_markAskedS.calls (k : Nat) (P0_ : Nat → Prop) (u9000_ : Value) (l0 : List (S95)) (a1 : Int) (r1 : Int) (r2 : List (S95)) (w0 w : World) (hB : Below w0.heap.size w0 w) (ho0 : Kd.R k95 95 w w0.heap.size P0_ u9000_ l0) (h : laws_markAskedS.f k l0 a1 = some (r1, r2)) :
  Calls Try.prog 24 #[u9000_, .int .i64 a1] w fun e w' => e = .returned (.int .i64 r1) ∧ Kd.R k95 95 w' w0.heap.size (fun k_ => (P0_ k_ ∨ w.heap.size ≤ k_)) u9000_ r2 ∧ Below w0.heap.size w0 w' ∧ Kept w w' (fun k_ => P0_ k_) := by
 have HO0 := Aside0.mk (show Kd.R k95 95 w w0.heap.size (fun k_ => (P0_ k_ ∨ w.heap.size ≤ k_)) u9000_ l0 from Kd.R_mono ho0 (fun k_ hk => (.inl hk)))
 have HK := Aside0.mk (Kept.refl w (fun k_ => P0_ k_))
 have HW0 := Aside0.mk hB.size
 have HB := Aside0.mk hB
 clear hB
 have H : (laws_markAskedS.l0 k l0 a1 0) = some (r1, r2) := h
 clear h
 have H' := Aside0.mk H
 clear H
 go_enter Try.func24, Try.ntmps24
 go_wp2
 go_loopg [1, 5] k (fun kq v1 v5 w' => ∃ (x0_1 : List (S95)) (x1_1 : Int) (x5_1 : Int), v1 = .int .i64 x1_1 ∧ v5 = .int .i64 x5_1 ∧ Aside0 (laws_markAskedS.l0 kq x0_1 x1_1 x5_1 = some (r1, r2)) ∧ Aside0 (kq ≤ k) ∧ Aside0 (Kd.R k95 95 w' w0.heap.size (fun k_ => (P0_ k_ ∨ w.heap.size ≤ k_)) u9000_ x0_1) ∧ Aside0 (Kept w w' (fun k_ => P0_ k_)) ∧ Aside0 (Below w0.heap.size w0 w'))
 case atStart => exact ⟨(l0), (a1), (0), zfs, zfs, H', ⟨Nat.le_refl _⟩, ⟨zr0 HO0⟩, ⟨by repeat (first | (with_reducible first | exact HK.out | apply Kept.alloc | apply Kept.drewN | apply Kept.drew) | exact HK.out)⟩, ⟨by repeat (first | exact zh0 HB)⟩⟩
 case round =>
  clear H'
  try clear c2
  try clear p2
  obtain ⟨x0_1, x1_1, x5_1, rfl, rfl, HA, HK1, HO_0, HK, HB⟩ := hrel
  cases gk with
  | zero => exact absurd HA.out (by simp [laws_markAskedS.l0])
  | succ k1 =>
   have H := HA.out
   clear HA
   simp only [laws_markAskedS.l0] at H
   by_cases c3 : x5_1 < (x0_1.length : Int)
   ·rw [if_pos c3] at H
    have c3b0 : decide (x5_1 < (x0_1.length : Int)) = true := decide_eq_true c3
    clear c3
    by_cases c4 : 0 ≤ x5_1
    ·rw [if_pos c4] at H
     have c4b0 : decide (0 ≤ x5_1) = true := decide_eq_true c4
     clear c4
     obtain ⟨y294, hy294⟩ : ∃ y_ : List (S95), y_ = (x0_1.set (x5_1 : Int).toNat (⟨x1_1, (rd_T95 x0_1 x5_1).f1⟩ : S95)) := ⟨_, rfl⟩
     replace H : (laws_markAskedS.l0 k1 (y294.set (x5_1 : Int).toNat (⟨(rd_T95 y294 x5_1).f0, wrap64 (x1_1 + 1)⟩ : S95)) (wrap64 ((wrap64 (x1_1 + 1)) + 1)) (wrap64 (x5_1 + 1))) = some (r1, r2) := by first | (rw [hy294]; with_reducible exact H) | (have H2_ := (Option.bind_some _ _).symm.trans H; rw [hy294]; with_reducible exact H2_) | (have H2_ := (Option.bind_some _ _).symm.trans H; with_reducible exact H2_) | with_reducible exact H | (rw [hy294]; exact H) | exact H
     have Ny294 := Aside0.mk hy294
     clear hy294
     obtain ⟨y295, hy295⟩ : ∃ y_ : List (S95), y_ = (y294.set (x5_1 : Int).toNat (⟨(rd_T95 y294 x5_1).f0, wrap64 (x1_1 + 1)⟩ : S95)) := ⟨_, rfl⟩
     replace H : (laws_markAskedS.l0 k1 y295 (wrap64 ((wrap64 (x1_1 + 1)) + 1)) (wrap64 (x5_1 + 1))) = some (r1, r2) := by first | (rw [hy295]; with_reducible exact H) | (have H2_ := (Option.bind_some _ _).symm.trans H; rw [hy295]; with_reducible exact H2_) | (have H2_ := (Option.bind_some _ _).symm.trans H; with_reducible exact H2_) | with_reducible exact H | (rw [hy295]; exact H) | exact H
     have Ny295 := Aside0.mk hy295
     clear hy295
     have H' := Aside0.mk H
     clear H
     obtain ⟨Ao7, co7, eo7⟩ := Kd.R_slice HO_0.out
     subst eo7
     have p5 : 0 ≤ (x5_1 : Int) := zod
     have q5 : (x5_1 : Int) < ((x0_1.length : Int) : Int) := zod
     obtain ⟨go5, co5, eo5, gb5, gl5, cl5, HG5⟩ := Kd.R_form HO_0.out (by omega)
     (first | cases eo5 | (injection eo5 with ea_ en_ ec_; (first | subst ea_ | (injection ea_ with ea_; subst ea_)); subst ec_; clear en_))
     have GB5 := Aside0.mk gb5
     have GG5 := Aside0.mk HG5
     clear gb5 gl5 HG5
     have HMgo5 := Aside0.mk (show (P0_ go5 ∨ w.heap.size ≤ go5) from (HO_0.out.1 _ rfl))
     obtain ⟨ce5, hcl5, hM5, hcc5, hfr5⟩ := Kd.R_elem HO_0.out z95 (x5_1 : Int) p5 q5
     obtain rfl := k95_openM hM5
     have hx5_0 : wr.cell? ⟨go5, (x5_1 : Int).toNat * 2, none⟩ = some (.int .i64 ((rd_T95 x0_1 x5_1).f0)) := hcc5 0 _ rfl
     have hx5_1 : wr.cell? ⟨go5, (x5_1 : Int).toNat * 2 + 1, none⟩ = some (.int .i64 ((rd_T95 x0_1 x5_1).f1)) := hcc5 1 _ rfl
     have hf5_0 : wr.frozen? ⟨go5, (x5_1 : Int).toNat * 2, none⟩ = false := hfr5 0
     have hf5_1 : wr.frozen? ⟨go5, (x5_1 : Int).toNat * 2 + 1, none⟩ = false := hfr5 1
     clear hcl5 hcc5 hfr5; (try clear hM5)
     replace p5 := eq_true p5
     replace q5 := eq_true q5
     have HX8 := Aside0.mk (show Kd.R k95 95 wr w0.heap.size (fun k_ => (P0_ k_ ∨ w.heap.size ≤ k_)) (.slice (some ⟨go5, 0, none⟩) x0_1.length co7) x0_1 from (zr0 HO_0))
     obtain ⟨ce8, hcl8, hM8, hcc8, hfr8⟩ := Kd.R_elem HX8.out z95 (x5_1 : Int) (zod) (by have h_ : (x5_1 : Int) < ((x0_1.length : Int) : Int) := zod; first | exact h_ | (have e_ := (Kd.R_reads' HO_0.out).1; omega) | simpa using h_)
     obtain rfl := k95_openM hM8
     have HP8 := Kd.R_seg HX8.out (x5_1 : Int) (zod) (by have h_ : (x5_1 : Int) < ((x0_1.length : Int) : Int) := zod; first | exact h_ | (have e_ := (Kd.R_reads' HO_0.out).1; omega) | simpa using h_) (seg := [.int .i64 x1_1]) (j := 0) hcl8 hcc8 (show 1 ≤ 2 from by decide) (x' := (⟨x1_1, (rd_T95 x0_1 x5_1).f1⟩ : S95)) (k95_mkM _ _ _ (⟨x1_1, (rd_T95 x0_1 x5_1).f1⟩ : S95) ) (fun _ hk => hk)
     have hx8_0 := hcc8 0 _ rfl
     (try simp only [show (k95).sz = 2 from rfl, Nat.mul_one, Nat.add_zero] at hx8_0)
     have hf8_0 := hfr8 0
     (try simp only [show (k95).sz = 2 from rfl, Nat.mul_one, Nat.add_zero] at hf8_0)
     clear hcl8 hcc8 hfr8; (try clear hM8)
     go_wp2_with (first | ((with_reducible refine gate_store (t := 3) (p := 16) rfl ?_); refine store_event (t := 3) (p := 16) (v := ?vo_w9) (w1 := (wr.setCell ⟨go5, (x5_1 : Int).toNat * 2, none⟩ (.int .i64 x1_1))) ?hg ?ho ?hn ?hr ?_; (case ho => rfl); (case hg => rfl); (case hn => rfl); (case hr => first | (go_simp; done) | (go_simp; rfl)); intro w9 hw; have hg : wr.grownBy w9 (some go5) := (by rw [hw]; exact HP8.2); have hp_ : Kd.R k95 95 w9 w0.heap.size (fun k_ => (P0_ k_ ∨ w.heap.size ≤ k_)) (.slice (some ⟨go5, 0, none⟩) x0_1.length co7) y294 := (by rw [hw, Ny294.out]; exact HP8.1); clear HP8; have n0_ := Aside0.mk (hp_); have n1_ := Aside0.mk ((by rw [hw]; exact below_set (HB.out) GB5.out : Below w0.heap.size w0 w9)); have n2_ := Aside0.mk (Kept.of_grown (S := (fun k_ => P0_ k_)) hg (by repeat (first | (with_reducible first | exact HK.out | apply Kept.alloc | apply Kept.drewN | apply Kept.drew) | exact HK.out)) (fun k_ e_ => (HO_0.out.1 k_ e_))); clear HO_0; clear HB; clear HK; have HO_0 := n0_; have HB := n1_; have HK := n2_; clear n0_ n1_ n2_; clear hg hw hp_; have p6 : 0 ≤ (x5_1 : Int) := zod; have q6 : (x5_1 : Int) < ((x0_1.length : Int) : Int) := zod; obtain ⟨ce6, hcl6, hM6, hcc6, hfr6⟩ := Kd.R_elem HO_0.out z95 (x5_1 : Int) p6 q6; obtain rfl := k95_openM hM6; have hx6_0 : w9.cell? ⟨go5, (x5_1 : Int).toNat * 2, none⟩ = some (.int .i64 ((rd_T95 y294 x5_1).f0)) := hcc6 0 _ rfl; have hx6_1 : w9.cell? ⟨go5, (x5_1 : Int).toNat * 2 + 1, none⟩ = some (.int .i64 ((rd_T95 y294 x5_1).f1)) := hcc6 1 _ rfl; have hf6_0 : w9.frozen? ⟨go5, (x5_1 : Int).toNat * 2, none⟩ = false := hfr6 0; have hf6_1 : w9.frozen? ⟨go5, (x5_1 : Int).toNat * 2 + 1, none⟩ = false := hfr6 1; clear hcl6 hcc6 hfr6; (try clear hM6); replace p6 := eq_true p6; replace q6 := eq_true q6; have HX10 := Aside0.mk (show Kd.R k95 95 w9 w0.heap.size (fun k_ => (P0_ k_ ∨ w.heap.size ≤ k_)) (.slice (some ⟨go5, 0, none⟩) x0_1.length co7) y294 from (zr0 HO_0)); obtain ⟨ce10, hcl10, hM10, hcc10, hfr10⟩ := Kd.R_elem HX10.out z95 (x5_1 : Int) (zod) (by have h_ : (x5_1 : Int) < ((x0_1.length : Int) : Int) := zod; first | exact h_ | (have e_ := (Kd.R_reads' HO_0.out).1; omega) | simpa using h_); obtain rfl := k95_openM hM10; have HP10 := Kd.R_seg HX10.out (x5_1 : Int) (zod) (by have h_ : (x5_1 : Int) < ((x0_1.length : Int) : Int) := zod; first | exact h_ | (have e_ := (Kd.R_reads' HO_0.out).1; omega) | simpa using h_) (seg := [.int .i64 (wrap64 (x1_1 + 1))]) (j := 1) hcl10 hcc10 (show 2 ≤ 2 from by decide) (x' := (⟨(rd_T95 y294 x5_1).f0, wrap64 (x1_1 + 1)⟩ : S95)) (k95_mkM _ _ _ (⟨(rd_T95 y294 x5_1).f0, wrap64 (x1_1 + 1)⟩ : S95) ) (fun _ hk => hk); have hx10_1 := hcc10 1 _ rfl; (try simp only [show (k95).sz = 2 from rfl, Nat.mul_one, Nat.add_zero] at hx10_1); have hf10_1 := hfr10 1; (try simp only [show (k95).sz = 2 from rfl, Nat.mul_one, Nat.add_zero] at hf10_1); clear hcl10 hcc10 hfr10; (try clear hM10)) | ((with_reducible refine gate_store (t := 3) (p := 23) rfl ?_); refine store_event (t := 3) (p := 23) (v := ?vo_w11) (w1 := (w9.setCell ⟨go5, (x5_1 : Int).toNat * 2 + 1, none⟩ (.int .i64 (wrap64 (x1_1 + 1))))) ?hg ?ho ?hn ?hr ?_; (case ho => rfl); (case hg => rfl); (case hn => rfl); (case hr => first | (go_simp; done) | (go_simp; rfl)); intro w11 hw; have hg : w9.grownBy w11 (some go5) := (by rw [hw]; exact HP10.2); have hp_ : Kd.R k95 95 w11 w0.heap.size (fun k_ => (P0_ k_ ∨ w.heap.size ≤ k_)) (.slice (some ⟨go5, 0, none⟩) x0_1.length co7) y295 := (by rw [hw, Ny295.out]; exact HP10.1); clear HP10; have n0_ := Aside0.mk (hp_); have n1_ := Aside0.mk ((by rw [hw]; exact below_set (HB.out) GB5.out : Below w0.heap.size w0 w11)); have n2_ := Aside0.mk (Kept.of_grown (S := (fun k_ => P0_ k_)) hg (by repeat (first | (with_reducible first | exact HK.out | apply Kept.alloc | apply Kept.drewN | apply Kept.drew) | exact HK.out)) (fun k_ e_ => (HO_0.out.1 k_ e_))); clear HO_0; clear HB; clear HK; have HO_0 := n0_; have HB := n1_; have HK := n2_; clear n0_ n1_ n2_; clear hg hw hp_))
     go_roundg k1
     case measure => have := HK1.out; omega
     case rel => exact ⟨(y295), (wrap64 ((wrap64 (x1_1 + 1)) + 1)), (wrap64 (x5_1 + 1)), zfs, zfs, H', ⟨by have := HK1.out; omega⟩, ⟨zr0 HO_0⟩, ⟨by repeat (first | (with_reducible first | exact HK.out | apply Kept.alloc | apply Kept.drewN | apply Kept.drew) | exact HK.out)⟩, ⟨by repeat (first | exact zh0 HB)⟩⟩
    ·rw [if_neg c4] at H
     exact absurd H (by simp)
   ·rw [if_neg c3] at H
    have c3b0 : decide (x5_1 < (x0_1.length : Int)) = false := decide_eq_false c3
    clear c3
    simp only [Option.some.injEq, Prod.mk.injEq] at H
    obtain ⟨rfl, rfl⟩ := H
    obtain ⟨Ao12, co12, eo12⟩ := Kd.R_slice HO_0.out
    subst eo12
    go_wp2
    go_ret
    exact ⟨by first | rfl | (simp <;> rfl) | (simp [*] <;> rfl), zr0 HO_0, by repeat (first | exact zh0 HB), by repeat (first | (with_reducible first | exact HK.out | apply Kept.alloc | apply Kept.drewN | apply Kept.drew) | exact HK.out)⟩

end Go.Proofs.Ytkifenbcepicjab.PFnExactBestOrder
