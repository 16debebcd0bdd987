/- What is proved here: each Go function that is named below answers, and leaves memory, as the theorem of its name says; no condition beyond those that each theorem states. Laid by this session's own program (wip/driver.py) over the kit's print. -/
import Derived.Test.YtdojnaghcfhadaaPFnExactRingPartsx0
import Derived.Test.YtdojnaghcfhadaaPFnExactRingPartsx1
import Derived.Test.YtdojnaghcfhadaaPFnExactRingPartsx2
import Derived.Test.YtdojnaghcfhadaaPFnExactRingPartsx3
import Derived.Test.YtdojnaghcfhadaaPFnExactRingPartsx4
namespace Go.Proofs.Ytdojnaghcfhadaa.PFnExactRingParts
open Go.RowKit Go.Proofs.YtdojnaghcfhadaaW.PrintWords Go.Proofs.YtdojnaghcfhadaaW.PrintLast Go.Proofs.YtdojnaghcfhadaaW.PrintMore
attribute [local go_sem] max2_int min2_int max_two min_two max_three min_three max_four min_four   -- for this text's walks alone
set_option linter.unusedVariables false
set_option linter.unusedSimpArgs false

open Go.Proofs.Ytdojnaghcfhadaa.Cp
/-! ### laws_FnExactRingParts: function 7 -/
def laws_FnExactRingParts.f (k : Nat) (l0_0 : List (List Int)) (a1_0 : Int) (a1_1 : Int) (a1_2 : Int) (a1_3 : Int) (a1_4 : Int) (a1_5 : Int) : Option (Bool) := (laws_szMemory.f k l0_0 1048576).bind fun t215 => (if t215 < 0 then (some true) else ((laws_toMemory.f k l0_0).bind fun t216 => ((laws_toRing.f a1_0 a1_1 a1_2 a1_3 a1_4 a1_5).bind fun bt219 => ((spec_RingParts.f k t216 bt219.1 bt219.2.1 bt219.2.2.1 bt219.2.2.2.1 bt219.2.2.2.2.1 bt219.2.2.2.2.2).bind fun bt225 => ((laws_toMemory.f k l0_0).bind fun t236 => ((laws_toRing.f a1_0 a1_1 a1_2 a1_3 a1_4 a1_5).bind fun bt240 => ((impl_RingParts.f k t236 bt240.1 bt240.2.1 bt240.2.2.1 bt240.2.2.2.1 bt240.2.2.2.2.1 bt240.2.2.2.2.2).bind fun bt246 => ((laws_eqWindow.f bt246.1 bt246.2.1 bt246.2.2.1 bt246.2.2.2.1 bt225.1 bt225.2.1 bt225.2.2.1 bt225.2.2.2.1).bind fun t257 => (if t257 = true then ((laws_eqWindow.f bt246.2.2.2.2.1 bt246.2.2.2.2.2.1 bt246.2.2.2.2.2.2.1 bt246.2.2.2.2.2.2.2.1 bt225.2.2.2.2.1 bt225.2.2.2.2.2.1 bt225.2.2.2.2.2.2.1 bt225.2.2.2.2.2.2.2.1).bind fun t258 => (if t258 = true then (if (bt246.2.2.2.2.2.2.2.2 != bt225.2.2.2.2.2.2.2.2) = true then (none) else ((laws_toMemory.f k l0_0).bind fun t259 => ((laws_eqMemory.f k t236 t259).bind fun t262 => (if t262 = true then (some true) else (none))))) else (none))) else (none))))))))))
theorem laws_FnExactRingParts.mono : ∀ a0 a1 a2 a3 a4 a5 a6 k, LeO (laws_FnExactRingParts.f k a0 a1 a2 a3 a4 a5 a6) (laws_FnExactRingParts.f (k + 1) a0 a1 a2 a3 a4 a5 a6) := by
 intro a0 a1 a2 a3 a4 a5 a6 k
 unfold laws_FnExactRingParts.f
 repeat' first
   | (with_reducible exact impl_RingParts.mono _ _ _ _ _ _ _ _)
   | (with_reducible exact laws_eqMemory.mono _ _ _)
   | (with_reducible exact laws_szMemory.mono _ _ _)
   | (with_reducible exact laws_toMemory.mono _ _)
   | (with_reducible exact spec_RingParts.mono _ _ _ _ _ _ _ _)
   | (with_reducible exact LeO.refl _)
   | (with_reducible exact LeO.none _)
   | (with_reducible refine LeO.ite ?_ ?_)
   | (with_reducible refine LeO.bind ?_ (fun _ => ?_))
   | exact impl_RingParts.mono _ _ _ _ _ _ _ _
   | exact laws_eqMemory.mono _ _ _
   | exact laws_szMemory.mono _ _ _
   | exact laws_toMemory.mono _ _
   | exact spec_RingParts.mono _ _ _ _ _ _ _ _
   | exact LeO.none _
   | refine LeO.ite ?_ ?_
   | refine LeO.bind ?_ (fun _ => ?_)
def laws_FnExactRingParts.T5 : Bool × List (List Nat × List Nat) := (true, [([], []), ([0], [0]), ([], []), ([2, 1], [2]), ([1, 3, 3], [1, 3]), ([4], [4]), ([5], [5]), ([5], [5]), ([5], [5]), ([], []), ([], []), ([9, 6, 4, 0, 1, 2, 3, 4, 5, 6, 9, 10], [6, 9]), ([10, 7, 11, 0, 1, 2, 3, 4, 5, 6, 7, 9, 10, 11], [7, 10]), ([8, 12, 0, 1, 2, 3, 4, 5, 6, 7, 8, 9, 10, 11, 12], [8])])
def laws_FnExactRingParts.B5 : List Nat := [0, 1, 0, 7, 15, 31, 63, 63, 63, 0, 0, 1663, 3839, 8191]
theorem laws_FnExactRingParts.tab5 : rtab .any (opsOf Try.f7 5) = laws_FnExactRingParts.T5 := by kernel_rfl
theorem laws_FnExactRingParts.bits5 : waitsOk laws_FnExactRingParts.T5.2 laws_FnExactRingParts.B5 = true := by kernel_rfl
def laws_FnExactRingParts.T7 : Bool × List (List Nat × List Nat) := (true, [([], []), ([], []), ([1], [1]), ([0, 2, 2], [0, 2]), ([3], [3]), ([4], [4]), ([4], [4]), ([4], [4]), ([], []), ([], []), ([8, 5, 3, 0, 1, 2, 3, 4, 5, 8, 9], [5, 8]), ([9, 6, 10, 0, 1, 2, 3, 4, 5, 6, 8, 9, 10], [6, 9]), ([7, 11, 0, 1, 2, 3, 4, 5, 6, 7, 8, 9, 10, 11], [7])])
def laws_FnExactRingParts.B7 : List Nat := [0, 0, 2, 7, 15, 31, 31, 31, 0, 0, 831, 1919, 4095]
theorem laws_FnExactRingParts.tab7 : rtab .any (opsOf Try.f7 7) = laws_FnExactRingParts.T7 := by kernel_rfl
theorem laws_FnExactRingParts.bits7 : waitsOk laws_FnExactRingParts.T7.2 laws_FnExactRingParts.B7 = true := by kernel_rfl
set_option maxHeartbeats 8000000 in
set_option maxRecDepth 100000 in
theorem laws_FnExactRingParts.calls (k : Nat) (A0_0 : Option Addr) (c0_0 : Nat) (l0_0 : List (List Int)) (a1_0 : Int) (a1_1 : Int) (a1_2 : Int) (a1_3 : Int) (a1_4 : Int) (a1_5 : Int) (r : Bool) (w : World) (hr0_0 : Kd.C (Kd.slice 5 (Kd.int .u8)) w A0_0 l0_0.length l0_0) (hc0_0 : l0_0.length ≤ c0_0) (h : laws_FnExactRingParts.f k l0_0 a1_0 a1_1 a1_2 a1_3 a1_4 a1_5 = some r) :
  Calls Try.prog 7 #[.agg #[.slice A0_0 l0_0.length c0_0], .agg #[.int .i64 a1_0, .int .i64 a1_1, .int .i64 a1_2, .int .i64 a1_3, .int .i64 a1_4, .int .i64 a1_5]] w fun e w' => e = .returned (.bool r) ∧ Below w.heap.size w w' := by
 have hu24 := Try.underlying24
 have hu28 := Try.underlying28
 have hu34 := Try.underlying34
 have hu32 := Try.underlying32
 have HR0_0 := Aside0.mk hr0_0
 have HC0_0 := Aside0.mk hc0_0
 clear hr0_0 hc0_0
 have HB := Aside0.mk (Below.refl w.heap.size w)
 have H : ((laws_szMemory.f k l0_0 1048576).bind fun t215 => (if t215 < 0 then (some true) else ((laws_toMemory.f k l0_0).bind fun t216 => ((laws_toRing.f a1_0 a1_1 a1_2 a1_3 a1_4 a1_5).bind fun bt219 => ((spec_RingParts.f k t216 bt219.1 bt219.2.1 bt219.2.2.1 bt219.2.2.2.1 bt219.2.2.2.2.1 bt219.2.2.2.2.2).bind fun bt225 => ((laws_toMemory.f k l0_0).bind fun t236 => ((laws_toRing.f a1_0 a1_1 a1_2 a1_3 a1_4 a1_5).bind fun bt240 => ((impl_RingParts.f k t236 bt240.1 bt240.2.1 bt240.2.2.1 bt240.2.2.2.1 bt240.2.2.2.2.1 bt240.2.2.2.2.2).bind fun bt246 => ((laws_eqWindow.f bt246.1 bt246.2.1 bt246.2.2.1 bt246.2.2.2.1 bt225.1 bt225.2.1 bt225.2.2.1 bt225.2.2.2.1).bind fun t257 => (if t257 = true then ((laws_eqWindow.f bt246.2.2.2.2.1 bt246.2.2.2.2.2.1 bt246.2.2.2.2.2.2.1 bt246.2.2.2.2.2.2.2.1 bt225.2.2.2.2.1 bt225.2.2.2.2.2.1 bt225.2.2.2.2.2.2.1 bt225.2.2.2.2.2.2.2.1).bind fun t258 => (if t258 = true then (if (bt246.2.2.2.2.2.2.2.2 != bt225.2.2.2.2.2.2.2.2) = true then (none) else ((laws_toMemory.f k l0_0).bind fun t259 => ((laws_eqMemory.f k t236 t259).bind fun t262 => (if t262 = true then (some true) else (none))))) else (none))) else (none))))))))))) = some r := h
 clear h
 replace H := Option.bind_eq_some_iff.mp H
 obtain ⟨t215, A30, H⟩ := H
 replace H : (if t215 < 0 then (some true) else ((laws_toMemory.f k l0_0).bind fun t216 => ((laws_toRing.f a1_0 a1_1 a1_2 a1_3 a1_4 a1_5).bind fun bt219 => ((spec_RingParts.f k t216 bt219.1 bt219.2.1 bt219.2.2.1 bt219.2.2.2.1 bt219.2.2.2.2.1 bt219.2.2.2.2.2).bind fun bt225 => ((laws_toMemory.f k l0_0).bind fun t236 => ((laws_toRing.f a1_0 a1_1 a1_2 a1_3 a1_4 a1_5).bind fun bt240 => ((impl_RingParts.f k t236 bt240.1 bt240.2.1 bt240.2.2.1 bt240.2.2.2.1 bt240.2.2.2.2.1 bt240.2.2.2.2.2).bind fun bt246 => ((laws_eqWindow.f bt246.1 bt246.2.1 bt246.2.2.1 bt246.2.2.2.1 bt225.1 bt225.2.1 bt225.2.2.1 bt225.2.2.2.1).bind fun t257 => (if t257 = true then ((laws_eqWindow.f bt246.2.2.2.2.1 bt246.2.2.2.2.2.1 bt246.2.2.2.2.2.2.1 bt246.2.2.2.2.2.2.2.1 bt225.2.2.2.2.1 bt225.2.2.2.2.2.1 bt225.2.2.2.2.2.2.1 bt225.2.2.2.2.2.2.2.1).bind fun t258 => (if t258 = true then (if (bt246.2.2.2.2.2.2.2.2 != bt225.2.2.2.2.2.2.2.2) = true then (none) else ((laws_toMemory.f k l0_0).bind fun t259 => ((laws_eqMemory.f k t236 t259).bind fun t262 => (if t262 = true then (some true) else (none))))) else (none))) else (none)))))))))) = some r := H
 have A3 := Aside0.mk A30
 clear A30
 by_cases c4 : t215 < 0
 ·rw [if_pos c4] at H
  have c4b0 : decide (t215 < 0) = true := decide_eq_true c4
  clear c4
  obtain rfl := Option.some.inj H
  go_enter Try.func7, Try.ntmps7
  go_wp2_with (first | ((with_reducible refine gate_dst (N := 2) rfl ?_); refine box_event ?hg (N := 2) ?hd (cs := #[.slice A0_0 l0_0.length c0_0]) (t := 24) ?hr ?_; (case hd => rfl); (case hg => rfl); (case hr => first | (go_simp; done) | (go_simp; rfl)); intro gb213 hg w5 hbox hb; have n0_ := zhs HB hb; have n1_ := Aside0.mk (hbox); have n2_ := zge HB hg; have n3_ := zge HB hg; clear HB; have HB := n0_; have BK213 := n1_; have GW213 := n2_; have GE213 := n3_; clear n0_ n1_ n2_ n3_; clear hb hbox hg) | ((with_reducible refine gate_dst (N := 3) rfl ?_); refine box_event ?hg (N := 3) ?hd (cs := #[.int .i64 a1_0, .int .i64 a1_1, .int .i64 a1_2, .int .i64 a1_3, .int .i64 a1_4, .int .i64 a1_5]) (t := 28) ?hr ?_; (case hd => rfl); (case hg => rfl); (case hr => first | (go_simp; done) | (go_simp; rfl)); intro gb214 hg w6 hbox hb; have n0_ := zb0 BK213 hb; have n1_ := zhs HB hb; have n2_ := Aside0.mk (hbox); have n3_ := zge HB hg; have n4_ := zge HB hg; have n5_ := znl BK213 hg; have n6_ := znr BK213 hg; clear BK213; clear HB; have BK213 := n0_; have HB := n1_; have BK214 := n2_; have GW214 := n3_; have GE214 := n4_; have NB213_214 := n5_; have NB214_213 := n6_; clear n0_ n1_ n2_ n3_ n4_ n5_ n6_; clear hb hbox hg; have hnb7 := NB213_214.out; have hnc7 := NB214_213.out; have hcz8_0 : w6.cell? ⟨gb213, 0, none⟩ = some (.slice A0_0 l0_0.length c0_0) := zc0 BK213 0 rfl; have hfz8_0 := blk_frozen BK213.out 0) | ((with_reducible refine gate_callee (f := 14) rfl ?_); refine goesL_ (some 15) rfl rfl Try.func14 (by kernel_rfl) rfl #[.agg #[.slice A0_0 l0_0.length c0_0], .int .i64 1048576] rfl (by (try simp only [List.map_toArray, List.map_cons, List.map_nil]); first | done | rfl | (simp only [List.length_drop, List.length_take]; rfl)) ?_; (with_reducible refine (laws_szMemory.calls k _ _ l0_0 1048576 t215 _ ?side1 ?side2 A3.out).mono ?_); (case side1 => repeat (first | exact (Kd.C_below HR0_0.out HB.out) | (with_reducible refine Kd.C_alloc ?_ _) | (with_reducible refine Kd.C_drewN ?_ _) | (with_reducible refine Kd.C_drew ?_))); (case side2 => exact HC0_0.out); rintro e w9 ⟨rfl, hb⟩; refine ⟨_, rfl, ?_⟩; have n0_ := zb0 BK213 hb; have n1_ := zb0 BK214 hb; have n2_ := zhs HB hb; clear BK213; clear BK214; clear HB; have BK213 := n0_; have BK214 := n1_; have HB := n2_; clear n0_ n1_ n2_; (try clear hb); (try clear hb2); (try clear hk); (try clear hi)))
  go_ret
  exact ⟨by first | rfl | (simp [errW_none, errW_some] <;> rfl) | (simp [*, errW_none, errW_some] <;> rfl), by repeat (first | (with_reducible first | exact HB.out | apply below_alloc | apply pw_below_drewN | apply below_drew1 | refine below_set ?_ GE213.out | refine below_set ?_ GE214.out) | exact HB.out)⟩
 ·rw [if_neg c4] at H
  have c4b0 : decide (t215 < 0) = false := decide_eq_false c4
  clear c4
  replace H := Option.bind_eq_some_iff.mp H
  obtain ⟨t216, A100, H⟩ := H
  replace H : ((laws_toRing.f a1_0 a1_1 a1_2 a1_3 a1_4 a1_5).bind fun bt219 => ((spec_RingParts.f k t216 bt219.1 bt219.2.1 bt219.2.2.1 bt219.2.2.2.1 bt219.2.2.2.2.1 bt219.2.2.2.2.2).bind fun bt225 => ((laws_toMemory.f k l0_0).bind fun t236 => ((laws_toRing.f a1_0 a1_1 a1_2 a1_3 a1_4 a1_5).bind fun bt240 => ((impl_RingParts.f k t236 bt240.1 bt240.2.1 bt240.2.2.1 bt240.2.2.2.1 bt240.2.2.2.2.1 bt240.2.2.2.2.2).bind fun bt246 => ((laws_eqWindow.f bt246.1 bt246.2.1 bt246.2.2.1 bt246.2.2.2.1 bt225.1 bt225.2.1 bt225.2.2.1 bt225.2.2.2.1).bind fun t257 => (if t257 = true then ((laws_eqWindow.f bt246.2.2.2.2.1 bt246.2.2.2.2.2.1 bt246.2.2.2.2.2.2.1 bt246.2.2.2.2.2.2.2.1 bt225.2.2.2.2.1 bt225.2.2.2.2.2.1 bt225.2.2.2.2.2.2.1 bt225.2.2.2.2.2.2.2.1).bind fun t258 => (if t258 = true then (if (bt246.2.2.2.2.2.2.2.2 != bt225.2.2.2.2.2.2.2.2) = true then (none) else ((laws_toMemory.f k l0_0).bind fun t259 => ((laws_eqMemory.f k t236 t259).bind fun t262 => (if t262 = true then (some true) else (none))))) else (none))) else (none)))))))) = some r := H
  have A10 := Aside0.mk A100
  clear A100
  replace H := Option.bind_eq_some_iff.mp H
  obtain ⟨⟨t219, t220, t221, t222, t223, t224⟩, A110, H⟩ := H
  replace H : ((spec_RingParts.f k t216 t219 t220 t221 t222 t223 t224).bind fun bt225 => ((laws_toMemory.f k l0_0).bind fun t236 => ((laws_toRing.f a1_0 a1_1 a1_2 a1_3 a1_4 a1_5).bind fun bt240 => ((impl_RingParts.f k t236 bt240.1 bt240.2.1 bt240.2.2.1 bt240.2.2.2.1 bt240.2.2.2.2.1 bt240.2.2.2.2.2).bind fun bt246 => ((laws_eqWindow.f bt246.1 bt246.2.1 bt246.2.2.1 bt246.2.2.2.1 bt225.1 bt225.2.1 bt225.2.2.1 bt225.2.2.2.1).bind fun t257 => (if t257 = true then ((laws_eqWindow.f bt246.2.2.2.2.1 bt246.2.2.2.2.2.1 bt246.2.2.2.2.2.2.1 bt246.2.2.2.2.2.2.2.1 bt225.2.2.2.2.1 bt225.2.2.2.2.2.1 bt225.2.2.2.2.2.2.1 bt225.2.2.2.2.2.2.2.1).bind fun t258 => (if t258 = true then (if (bt246.2.2.2.2.2.2.2.2 != bt225.2.2.2.2.2.2.2.2) = true then (none) else ((laws_toMemory.f k l0_0).bind fun t259 => ((laws_eqMemory.f k t236 t259).bind fun t262 => (if t262 = true then (some true) else (none))))) else (none))) else (none))))))) = some r := H
  have A11 := Aside0.mk A110
  clear A110
  replace H := Option.bind_eq_some_iff.mp H
  obtain ⟨⟨t225, t226, t227, t228, t229, t230, t231, t232, t233⟩, A120, H⟩ := H
  replace H : ((laws_toMemory.f k l0_0).bind fun t236 => ((laws_toRing.f a1_0 a1_1 a1_2 a1_3 a1_4 a1_5).bind fun bt240 => ((impl_RingParts.f k t236 bt240.1 bt240.2.1 bt240.2.2.1 bt240.2.2.2.1 bt240.2.2.2.2.1 bt240.2.2.2.2.2).bind fun bt246 => ((laws_eqWindow.f bt246.1 bt246.2.1 bt246.2.2.1 bt246.2.2.2.1 t225 t226 t227 t228).bind fun t257 => (if t257 = true then ((laws_eqWindow.f bt246.2.2.2.2.1 bt246.2.2.2.2.2.1 bt246.2.2.2.2.2.2.1 bt246.2.2.2.2.2.2.2.1 t229 t230 t231 t232).bind fun t258 => (if t258 = true then (if (bt246.2.2.2.2.2.2.2.2 != t233) = true then (none) else ((laws_toMemory.f k l0_0).bind fun t259 => ((laws_eqMemory.f k t236 t259).bind fun t262 => (if t262 = true then (some true) else (none))))) else (none))) else (none)))))) = some r := H
  have A12 := Aside0.mk A120
  clear A120
  replace H := Option.bind_eq_some_iff.mp H
  obtain ⟨t236, A130, H⟩ := H
  replace H : ((laws_toRing.f a1_0 a1_1 a1_2 a1_3 a1_4 a1_5).bind fun bt240 => ((impl_RingParts.f k t236 bt240.1 bt240.2.1 bt240.2.2.1 bt240.2.2.2.1 bt240.2.2.2.2.1 bt240.2.2.2.2.2).bind fun bt246 => ((laws_eqWindow.f bt246.1 bt246.2.1 bt246.2.2.1 bt246.2.2.2.1 t225 t226 t227 t228).bind fun t257 => (if t257 = true then ((laws_eqWindow.f bt246.2.2.2.2.1 bt246.2.2.2.2.2.1 bt246.2.2.2.2.2.2.1 bt246.2.2.2.2.2.2.2.1 t229 t230 t231 t232).bind fun t258 => (if t258 = true then (if (bt246.2.2.2.2.2.2.2.2 != t233) = true then (none) else ((laws_toMemory.f k l0_0).bind fun t259 => ((laws_eqMemory.f k t236 t259).bind fun t262 => (if t262 = true then (some true) else (none))))) else (none))) else (none))))) = some r := H
  have A13 := Aside0.mk A130
  clear A130
  replace H := Option.bind_eq_some_iff.mp H
  obtain ⟨⟨t240, t241, t242, t243, t244, t245⟩, A140, H⟩ := H
  replace H : ((impl_RingParts.f k t236 t240 t241 t242 t243 t244 t245).bind fun bt246 => ((laws_eqWindow.f bt246.1 bt246.2.1 bt246.2.2.1 bt246.2.2.2.1 t225 t226 t227 t228).bind fun t257 => (if t257 = true then ((laws_eqWindow.f bt246.2.2.2.2.1 bt246.2.2.2.2.2.1 bt246.2.2.2.2.2.2.1 bt246.2.2.2.2.2.2.2.1 t229 t230 t231 t232).bind fun t258 => (if t258 = true then (if (bt246.2.2.2.2.2.2.2.2 != t233) = true then (none) else ((laws_toMemory.f k l0_0).bind fun t259 => ((laws_eqMemory.f k t236 t259).bind fun t262 => (if t262 = true then (some true) else (none))))) else (none))) else (none)))) = some r := H
  have A14 := Aside0.mk A140
  clear A140
  replace H := Option.bind_eq_some_iff.mp H
  obtain ⟨⟨t246, t247, t248, t249, t250, t251, t252, t253, t254⟩, A150, H⟩ := H
  replace H : ((laws_eqWindow.f t246 t247 t248 t249 t225 t226 t227 t228).bind fun t257 => (if t257 = true then ((laws_eqWindow.f t250 t251 t252 t253 t229 t230 t231 t232).bind fun t258 => (if t258 = true then (if (t254 != t233) = true then (none) else ((laws_toMemory.f k l0_0).bind fun t259 => ((laws_eqMemory.f k t236 t259).bind fun t262 => (if t262 = true then (some true) else (none))))) else (none))) else (none))) = some r := H
  have A15 := Aside0.mk A150
  clear A150
  replace H := Option.bind_eq_some_iff.mp H
  obtain ⟨t257, A160, H⟩ := H
  replace H : (if t257 = true then ((laws_eqWindow.f t250 t251 t252 t253 t229 t230 t231 t232).bind fun t258 => (if t258 = true then (if (t254 != t233) = true then (none) else ((laws_toMemory.f k l0_0).bind fun t259 => ((laws_eqMemory.f k t236 t259).bind fun t262 => (if t262 = true then (some true) else (none))))) else (none))) else (none)) = some r := H
  have A16 := Aside0.mk A160
  clear A160
  by_cases c17 : t257 = true
  ·subst c17
   have H1 : ((laws_eqWindow.f t250 t251 t252 t253 t229 t230 t231 t232).bind fun t258 => (if t258 = true then (if (t254 != t233) = true then (none) else ((laws_toMemory.f k l0_0).bind fun t259 => ((laws_eqMemory.f k t236 t259).bind fun t262 => (if t262 = true then (some true) else (none))))) else (none))) = some r := by rw [if_pos rfl] at H; exact H
   clear H
   have H := H1
   clear H1
   replace H := Option.bind_eq_some_iff.mp H
   obtain ⟨t258, A180, H⟩ := H
   replace H : (if t258 = true then (if (t254 != t233) = true then (none) else ((laws_toMemory.f k l0_0).bind fun t259 => ((laws_eqMemory.f k t236 t259).bind fun t262 => (if t262 = true then (some true) else (none))))) else (none)) = some r := H
   have A18 := Aside0.mk A180
   clear A180
   by_cases c19 : t258 = true
   ·subst c19
    have H1 : (if (t254 != t233) = true then (none) else ((laws_toMemory.f k l0_0).bind fun t259 => ((laws_eqMemory.f k t236 t259).bind fun t262 => (if t262 = true then (some true) else (none))))) = some r := by rw [if_pos rfl] at H; exact H
    clear H
    have H := H1
    clear H1
    by_cases c20 : (t254 != t233) = true
    ·rw [if_pos c20] at H
     exact absurd H (by simp)
    ·rw [if_neg c20] at H
     have c20b0 : (t254 != t233) = false := by simpa using c20
     (try (have c20b1 : decide (t254 = t233) = true := by simpa using c20))
     (try (have c20b2 : (t254 == t233) = true := by simpa using c20))
     clear c20
     replace H := Option.bind_eq_some_iff.mp H
     obtain ⟨t259, A210, H⟩ := H
     replace H : ((laws_eqMemory.f k t236 t259).bind fun t262 => (if t262 = true then (some true) else (none))) = some r := H
     have A21 := Aside0.mk A210
     clear A210
     replace H := Option.bind_eq_some_iff.mp H
     obtain ⟨t262, A220, H⟩ := H
     replace H : (if t262 = true then (some true) else (none)) = some r := H
     have A22 := Aside0.mk A220
     clear A220
     by_cases c23 : t262 = true
     ·subst c23
      have H1 : (some true) = some r := by rw [if_pos rfl] at H; exact H
      clear H
      have H := H1
      clear H1
      obtain rfl := Option.some.inj H
      go_enter Try.func7, Try.ntmps7
      try go_wp2_with (first | ((with_reducible refine gate_dst (N := 2) rfl ?_); refine box_event ?hg (N := 2) ?hd (cs := #[.slice A0_0 l0_0.length c0_0]) (t := 24) ?hr ?_; (case hd => rfl); (case hg => rfl); (case hr => first | (go_simp; done) | (go_simp; rfl)); intro gb213 hg w24 hbox hb; have n0_ := zhs HB hb; have n1_ := Aside0.mk (hbox); have n2_ := zge HB hg; have n3_ := zge HB hg; clear HB; have HB := n0_; have BK213 := n1_; have GW213 := n2_; have GE213 := n3_; clear n0_ n1_ n2_ n3_; clear hb hbox hg) | ((with_reducible refine gate_dst (N := 3) rfl ?_); refine box_event ?hg (N := 3) ?hd (cs := #[.int .i64 a1_0, .int .i64 a1_1, .int .i64 a1_2, .int .i64 a1_3, .int .i64 a1_4, .int .i64 a1_5]) (t := 28) ?hr ?_; (case hd => rfl); (case hg => rfl); (case hr => first | (go_simp; done) | (go_simp; rfl)); intro gb214 hg w25 hbox hb; have n0_ := zb0 BK213 hb; have n1_ := zhs HB hb; have n2_ := Aside0.mk (hbox); have n3_ := zge HB hg; have n4_ := zge HB hg; have n5_ := znl BK213 hg; have n6_ := znr BK213 hg; clear BK213; clear HB; have BK213 := n0_; have HB := n1_; have BK214 := n2_; have GW214 := n3_; have GE214 := n4_; have NB213_214 := n5_; have NB214_213 := n6_; clear n0_ n1_ n2_ n3_ n4_ n5_ n6_; clear hb hbox hg; have hnb26 := NB213_214.out; have hnc26 := NB214_213.out; have hcz27_0 : w25.cell? ⟨gb213, 0, none⟩ = some (.slice A0_0 l0_0.length c0_0) := zc0 BK213 0 rfl; have hfz27_0 := blk_frozen BK213.out 0) | ((with_reducible refine gate_callee (f := 14) rfl ?_); refine goesL_ (some 15) rfl rfl Try.func14 (by kernel_rfl) rfl #[.agg #[.slice A0_0 l0_0.length c0_0], .int .i64 1048576] rfl (by (try simp only [List.map_toArray, List.map_cons, List.map_nil]); first | done | rfl | (simp only [List.length_drop, List.length_take]; rfl)) ?_; (with_reducible refine (laws_szMemory.calls k _ _ l0_0 1048576 t215 _ ?side1 ?side2 A3.out).mono ?_); (case side1 => repeat (first | exact (Kd.C_below HR0_0.out HB.out) | (with_reducible refine Kd.C_alloc ?_ _) | (with_reducible refine Kd.C_drewN ?_ _) | (with_reducible refine Kd.C_drew ?_))); (case side2 => exact HC0_0.out); rintro e w28 ⟨rfl, hb⟩; refine ⟨_, rfl, ?_⟩; have n0_ := zb0 BK213 hb; have n1_ := zb0 BK214 hb; have n2_ := zhs HB hb; clear BK213; clear BK214; clear HB; have BK213 := n0_; have BK214 := n1_; have HB := n2_; clear n0_ n1_ n2_; (try clear hb); (try clear hb2); (try clear hk); (try clear hi)))
      replace BK213 := Aside0.mk (blk_drew BK213.out)
      replace BK214 := Aside0.mk (blk_drew BK214.out)
      replace HB := Aside0.mk (below_drew1 HB.out)
      refine start_ (n := 14) (S := fun w' => w'.cell? ⟨gb213, 0, none⟩ = some (.slice A0_0 l0_0.length c0_0) ∧ w'.cell? ⟨gb214, 0, none⟩ = some (.int .i64 a1_0) ∧ w'.cell? ⟨gb214, 1, none⟩ = some (.int .i64 a1_1) ∧ w'.cell? ⟨gb214, 2, none⟩ = some (.int .i64 a1_2) ∧ w'.cell? ⟨gb214, 3, none⟩ = some (.int .i64 a1_3) ∧ w'.cell? ⟨gb214, 4, none⟩ = some (.int .i64 a1_4) ∧ w'.cell? ⟨gb214, 5, none⟩ = some (.int .i64 a1_5)) (ds := []) #[false, false, false, false, false, false, false, false, false, false, false, false, false, false] (by kernel_rfl) rfl rfl ⟨zc0 BK213 0 rfl, zc0 BK214 0 rfl, zc0 BK214 1 rfl, zc0 BK214 2 rfl, zc0 BK214 3 rfl, zc0 BK214 4 rfl, zc0 BK214 5 rfl⟩ (fun hHeld => ?_); refine with_tabW laws_FnExactRingParts.tab5 laws_FnExactRingParts.bits5 (fun HT_ HW_ => ?_)
      generalize w28.drew = w29 at BK213 BK214 HB hHeld ⊢
      refine take_ (i := 0) (N := some 19) (v := ?_) (a' := ?_) #[true, false, false, false, false, false, false, false, false, false, false, false, false, false] rfl rfl (take_ofW HT_.out HW_.out (by kernel_rfl)) (fun _ _ _ h => h) (Or.inl ⟨by rfl, ?_⟩) hHeld ?_ ?_
      rotate_left
      ·rintro w' ⟨s0, s1, s2, s3, s4, s5, s6⟩
       go_simp
       with_reducible rfl
      rotate_left
      ·simp only [Act.put, zp1, zp2, zp3, i64_w, i32_w]
       rfl
      refine take_ (i := 2) (N := some 21) (v := ?_) (a' := ?_) #[true, false, true, false, false, false, false, false, false, false, false, false, false, false] rfl rfl (take_ofW HT_.out HW_.out (by kernel_rfl)) (fun _ _ _ h => h) (Or.inl ⟨by rfl, ?_⟩) hHeld ?_ ?_
      rotate_left
      ·rintro w' ⟨s0, s1, s2, s3, s4, s5, s6⟩
       go_simp
       with_reducible rfl
      rotate_left
      ·simp only [Act.put, zp1, zp2, zp3, i64_w, i32_w]
       rfl
      refine join_ (σ := Value × Nat × Nat) 3 #[true, true, true, true, true, true, true, true, true, true, true, false, false, false] (fun s_ => [(20, .agg #[s_.1]), (22, .agg #[.int .i64 t219, .int .i64 t220, .int .i64 t221, .int .i64 t222, .int .i64 t223, .int .i64 t224]), (23, .tuple #[.agg #[.int .i64 t225, .int .i64 t226, .int .i64 t227, .int .i64 t228], .agg #[.int .i64 t229, .int .i64 t230, .int .i64 t231, .int .i64 t232], .bool t233]), (6, .pointer (some ⟨s_.2.1, 0, none⟩)), (7, .pointer (some ⟨s_.2.2, 0, none⟩)), (18, .tuple #[.agg #[.int .i64 t225, .int .i64 t226, .int .i64 t227, .int .i64 t228], .agg #[.int .i64 t229, .int .i64 t230, .int .i64 t231, .int .i64 t232], .bool t233]), (24, .agg #[.int .i64 t225, .int .i64 t226, .int .i64 t227, .int .i64 t228]), (25, .agg #[.int .i64 t229, .int .i64 t230, .int .i64 t231, .int .i64 t232]), (26, .bool t233)]) (fun s_ w' => (w'.cell? ⟨gb213, 0, none⟩ = some (.slice A0_0 l0_0.length c0_0) ∧ w'.cell? ⟨gb214, 0, none⟩ = some (.int .i64 a1_0) ∧ w'.cell? ⟨gb214, 1, none⟩ = some (.int .i64 a1_1) ∧ w'.cell? ⟨gb214, 2, none⟩ = some (.int .i64 a1_2) ∧ w'.cell? ⟨gb214, 3, none⟩ = some (.int .i64 a1_3) ∧ w'.cell? ⟨gb214, 4, none⟩ = some (.int .i64 a1_4) ∧ w'.cell? ⟨gb214, 5, none⟩ = some (.int .i64 a1_5)) ∧ (Kd.S (Kd.slice 5 (Kd.int .u8)) 65 w' w.heap.size (fun _ => True) s_.1 t216) ∧ (w'.heap[gb213]? = some (.cells #[.slice A0_0 l0_0.length c0_0] 24 (0, 0))) ∧ (w'.heap[gb214]? = some (.cells #[.int .i64 a1_0, .int .i64 a1_1, .int .i64 a1_2, .int .i64 a1_3, .int .i64 a1_4, .int .i64 a1_5] 28 (0, 0))) ∧ (w'.heap[s_.2.1]? = some (.cells #[.int .i64 0, .int .i64 0, .int .i64 0, .int .i64 0] 34 (0, 0))) ∧ (w'.heap[s_.2.2]? = some (.cells #[.int .i64 0, .int .i64 0, .int .i64 0, .int .i64 0] 34 (0, 0))) ∧ (w.heap.size ≤ s_.2.1) ∧ (w.heap.size ≤ s_.2.1) ∧ (gb213 ≠ s_.2.1) ∧ (s_.2.1 ≠ gb213) ∧ (gb214 ≠ s_.2.1) ∧ (s_.2.1 ≠ gb214) ∧ (s_.2.2 ≠ s_.2.1) ∧ (s_.2.1 ≠ s_.2.2) ∧ (w.heap.size ≤ s_.2.2) ∧ (w.heap.size ≤ s_.2.2) ∧ (gb213 ≠ s_.2.2) ∧ (s_.2.2 ≠ gb213) ∧ (gb214 ≠ s_.2.2) ∧ (s_.2.2 ≠ gb214) ∧ (Below w.heap.size w w')) ?_ ?_
      rotate_left
      ·intro hJ1_3_4_9_10
       refine join_ (σ := Value × Nat) 4 #[true, true, true, true, true, true, true, true, true, true, false, false, false, false] (fun s_ => [(20, .agg #[s_.1]), (22, .agg #[.int .i64 t219, .int .i64 t220, .int .i64 t221, .int .i64 t222, .int .i64 t223, .int .i64 t224]), (23, .tuple #[.agg #[.int .i64 t225, .int .i64 t226, .int .i64 t227, .int .i64 t228], .agg #[.int .i64 t229, .int .i64 t230, .int .i64 t231, .int .i64 t232], .bool t233]), (6, .pointer (some ⟨s_.2, 0, none⟩)), (18, .tuple #[.agg #[.int .i64 t225, .int .i64 t226, .int .i64 t227, .int .i64 t228], .agg #[.int .i64 t229, .int .i64 t230, .int .i64 t231, .int .i64 t232], .bool t233]), (24, .agg #[.int .i64 t225, .int .i64 t226, .int .i64 t227, .int .i64 t228]), (25, .agg #[.int .i64 t229, .int .i64 t230, .int .i64 t231, .int .i64 t232]), (26, .bool t233)]) (fun s_ w' => (w'.cell? ⟨gb213, 0, none⟩ = some (.slice A0_0 l0_0.length c0_0) ∧ w'.cell? ⟨gb214, 0, none⟩ = some (.int .i64 a1_0) ∧ w'.cell? ⟨gb214, 1, none⟩ = some (.int .i64 a1_1) ∧ w'.cell? ⟨gb214, 2, none⟩ = some (.int .i64 a1_2) ∧ w'.cell? ⟨gb214, 3, none⟩ = some (.int .i64 a1_3) ∧ w'.cell? ⟨gb214, 4, none⟩ = some (.int .i64 a1_4) ∧ w'.cell? ⟨gb214, 5, none⟩ = some (.int .i64 a1_5)) ∧ (Kd.S (Kd.slice 5 (Kd.int .u8)) 65 w' w.heap.size (fun _ => True) s_.1 t216) ∧ (w'.heap[gb213]? = some (.cells #[.slice A0_0 l0_0.length c0_0] 24 (0, 0))) ∧ (w'.heap[gb214]? = some (.cells #[.int .i64 a1_0, .int .i64 a1_1, .int .i64 a1_2, .int .i64 a1_3, .int .i64 a1_4, .int .i64 a1_5] 28 (0, 0))) ∧ (w'.heap[s_.2]? = some (.cells #[.int .i64 0, .int .i64 0, .int .i64 0, .int .i64 0] 34 (0, 0))) ∧ (w.heap.size ≤ s_.2) ∧ (w.heap.size ≤ s_.2) ∧ (gb213 ≠ s_.2) ∧ (s_.2 ≠ gb213) ∧ (gb214 ≠ s_.2) ∧ (s_.2 ≠ gb214) ∧ (Below w.heap.size w w')) ?_ ?_
       rotate_left
       ·intro hJ1_3_4_9
        refine join_ (σ := Value × Nat) 4 #[true, true, true, true, true, true, true, true, true, false, true, false, false, false] (fun s_ => [(20, .agg #[s_.1]), (22, .agg #[.int .i64 t219, .int .i64 t220, .int .i64 t221, .int .i64 t222, .int .i64 t223, .int .i64 t224]), (23, .tuple #[.agg #[.int .i64 t225, .int .i64 t226, .int .i64 t227, .int .i64 t228], .agg #[.int .i64 t229, .int .i64 t230, .int .i64 t231, .int .i64 t232], .bool t233]), (7, .pointer (some ⟨s_.2, 0, none⟩)), (18, .tuple #[.agg #[.int .i64 t225, .int .i64 t226, .int .i64 t227, .int .i64 t228], .agg #[.int .i64 t229, .int .i64 t230, .int .i64 t231, .int .i64 t232], .bool t233]), (24, .agg #[.int .i64 t225, .int .i64 t226, .int .i64 t227, .int .i64 t228]), (25, .agg #[.int .i64 t229, .int .i64 t230, .int .i64 t231, .int .i64 t232]), (26, .bool t233)]) (fun s_ w' => (w'.cell? ⟨gb213, 0, none⟩ = some (.slice A0_0 l0_0.length c0_0) ∧ w'.cell? ⟨gb214, 0, none⟩ = some (.int .i64 a1_0) ∧ w'.cell? ⟨gb214, 1, none⟩ = some (.int .i64 a1_1) ∧ w'.cell? ⟨gb214, 2, none⟩ = some (.int .i64 a1_2) ∧ w'.cell? ⟨gb214, 3, none⟩ = some (.int .i64 a1_3) ∧ w'.cell? ⟨gb214, 4, none⟩ = some (.int .i64 a1_4) ∧ w'.cell? ⟨gb214, 5, none⟩ = some (.int .i64 a1_5)) ∧ (Kd.S (Kd.slice 5 (Kd.int .u8)) 65 w' w.heap.size (fun _ => True) s_.1 t216) ∧ (w'.heap[gb213]? = some (.cells #[.slice A0_0 l0_0.length c0_0] 24 (0, 0))) ∧ (w'.heap[gb214]? = some (.cells #[.int .i64 a1_0, .int .i64 a1_1, .int .i64 a1_2, .int .i64 a1_3, .int .i64 a1_4, .int .i64 a1_5] 28 (0, 0))) ∧ (w'.heap[s_.2]? = some (.cells #[.int .i64 0, .int .i64 0, .int .i64 0, .int .i64 0] 34 (0, 0))) ∧ (w.heap.size ≤ s_.2) ∧ (w.heap.size ≤ s_.2) ∧ (gb213 ≠ s_.2) ∧ (s_.2 ≠ gb213) ∧ (gb214 ≠ s_.2) ∧ (s_.2 ≠ gb214) ∧ (Below w.heap.size w w')) ?_ ?_
        rotate_left
        ·intro hJ1_3_4_10
         refine join_ (σ := Value × Nat × Nat) 8 #[true, true, true, true, false, false, false, false, false, true, true, false, false, false] (fun s_ => [(20, .agg #[s_.1]), (22, .agg #[.int .i64 t219, .int .i64 t220, .int .i64 t221, .int .i64 t222, .int .i64 t223, .int .i64 t224]), (6, .pointer (some ⟨s_.2.1, 0, none⟩)), (7, .pointer (some ⟨s_.2.2, 0, none⟩))]) (fun s_ w' => (w'.cell? ⟨gb213, 0, none⟩ = some (.slice A0_0 l0_0.length c0_0) ∧ w'.cell? ⟨gb214, 0, none⟩ = some (.int .i64 a1_0) ∧ w'.cell? ⟨gb214, 1, none⟩ = some (.int .i64 a1_1) ∧ w'.cell? ⟨gb214, 2, none⟩ = some (.int .i64 a1_2) ∧ w'.cell? ⟨gb214, 3, none⟩ = some (.int .i64 a1_3) ∧ w'.cell? ⟨gb214, 4, none⟩ = some (.int .i64 a1_4) ∧ w'.cell? ⟨gb214, 5, none⟩ = some (.int .i64 a1_5)) ∧ (Kd.S (Kd.slice 5 (Kd.int .u8)) 65 w' w.heap.size (fun _ => True) s_.1 t216) ∧ (w'.heap[gb213]? = some (.cells #[.slice A0_0 l0_0.length c0_0] 24 (0, 0))) ∧ (w'.heap[gb214]? = some (.cells #[.int .i64 a1_0, .int .i64 a1_1, .int .i64 a1_2, .int .i64 a1_3, .int .i64 a1_4, .int .i64 a1_5] 28 (0, 0))) ∧ (w'.heap[s_.2.1]? = some (.cells #[.int .i64 0, .int .i64 0, .int .i64 0, .int .i64 0] 34 (0, 0))) ∧ (w'.heap[s_.2.2]? = some (.cells #[.int .i64 0, .int .i64 0, .int .i64 0, .int .i64 0] 34 (0, 0))) ∧ (w.heap.size ≤ s_.2.1) ∧ (w.heap.size ≤ s_.2.1) ∧ (gb213 ≠ s_.2.1) ∧ (s_.2.1 ≠ gb213) ∧ (gb214 ≠ s_.2.1) ∧ (s_.2.1 ≠ gb214) ∧ (s_.2.2 ≠ s_.2.1) ∧ (s_.2.1 ≠ s_.2.2) ∧ (w.heap.size ≤ s_.2.2) ∧ (w.heap.size ≤ s_.2.2) ∧ (gb213 ≠ s_.2.2) ∧ (s_.2.2 ≠ gb213) ∧ (gb214 ≠ s_.2.2) ∧ (s_.2.2 ≠ gb214) ∧ (Below w.heap.size w w')) ?_ ?_
         rotate_left
         ·intro hJ1_3_9_10
          refine join_ (σ := Value) 5 #[true, true, true, true, true, true, true, true, true, false, false, false, false, false] (fun s_ => [(20, .agg #[s_]), (22, .agg #[.int .i64 t219, .int .i64 t220, .int .i64 t221, .int .i64 t222, .int .i64 t223, .int .i64 t224]), (23, .tuple #[.agg #[.int .i64 t225, .int .i64 t226, .int .i64 t227, .int .i64 t228], .agg #[.int .i64 t229, .int .i64 t230, .int .i64 t231, .int .i64 t232], .bool t233]), (18, .tuple #[.agg #[.int .i64 t225, .int .i64 t226, .int .i64 t227, .int .i64 t228], .agg #[.int .i64 t229, .int .i64 t230, .int .i64 t231, .int .i64 t232], .bool t233]), (24, .agg #[.int .i64 t225, .int .i64 t226, .int .i64 t227, .int .i64 t228]), (25, .agg #[.int .i64 t229, .int .i64 t230, .int .i64 t231, .int .i64 t232]), (26, .bool t233)]) (fun s_ w' => (w'.cell? ⟨gb213, 0, none⟩ = some (.slice A0_0 l0_0.length c0_0) ∧ w'.cell? ⟨gb214, 0, none⟩ = some (.int .i64 a1_0) ∧ w'.cell? ⟨gb214, 1, none⟩ = some (.int .i64 a1_1) ∧ w'.cell? ⟨gb214, 2, none⟩ = some (.int .i64 a1_2) ∧ w'.cell? ⟨gb214, 3, none⟩ = some (.int .i64 a1_3) ∧ w'.cell? ⟨gb214, 4, none⟩ = some (.int .i64 a1_4) ∧ w'.cell? ⟨gb214, 5, none⟩ = some (.int .i64 a1_5)) ∧ (Kd.S (Kd.slice 5 (Kd.int .u8)) 65 w' w.heap.size (fun _ => True) s_ t216) ∧ (w'.heap[gb213]? = some (.cells #[.slice A0_0 l0_0.length c0_0] 24 (0, 0))) ∧ (w'.heap[gb214]? = some (.cells #[.int .i64 a1_0, .int .i64 a1_1, .int .i64 a1_2, .int .i64 a1_3, .int .i64 a1_4, .int .i64 a1_5] 28 (0, 0))) ∧ (Below w.heap.size w w')) ?_ ?_
          rotate_left
          ·intro hJ1_3_4
           refine join_ (σ := Value × Nat) 9 #[true, true, true, true, false, false, false, false, false, true, false, false, false, false] (fun s_ => [(20, .agg #[s_.1]), (22, .agg #[.int .i64 t219, .int .i64 t220, .int .i64 t221, .int .i64 t222, .int .i64 t223, .int .i64 t224]), (6, .pointer (some ⟨s_.2, 0, none⟩))]) (fun s_ w' => (w'.cell? ⟨gb213, 0, none⟩ = some (.slice A0_0 l0_0.length c0_0) ∧ w'.cell? ⟨gb214, 0, none⟩ = some (.int .i64 a1_0) ∧ w'.cell? ⟨gb214, 1, none⟩ = some (.int .i64 a1_1) ∧ w'.cell? ⟨gb214, 2, none⟩ = some (.int .i64 a1_2) ∧ w'.cell? ⟨gb214, 3, none⟩ = some (.int .i64 a1_3) ∧ w'.cell? ⟨gb214, 4, none⟩ = some (.int .i64 a1_4) ∧ w'.cell? ⟨gb214, 5, none⟩ = some (.int .i64 a1_5)) ∧ (Kd.S (Kd.slice 5 (Kd.int .u8)) 65 w' w.heap.size (fun _ => True) s_.1 t216) ∧ (w'.heap[gb213]? = some (.cells #[.slice A0_0 l0_0.length c0_0] 24 (0, 0))) ∧ (w'.heap[gb214]? = some (.cells #[.int .i64 a1_0, .int .i64 a1_1, .int .i64 a1_2, .int .i64 a1_3, .int .i64 a1_4, .int .i64 a1_5] 28 (0, 0))) ∧ (w'.heap[s_.2]? = some (.cells #[.int .i64 0, .int .i64 0, .int .i64 0, .int .i64 0] 34 (0, 0))) ∧ (w.heap.size ≤ s_.2) ∧ (w.heap.size ≤ s_.2) ∧ (gb213 ≠ s_.2) ∧ (s_.2 ≠ gb213) ∧ (gb214 ≠ s_.2) ∧ (s_.2 ≠ gb214) ∧ (Below w.heap.size w w')) ?_ ?_
           rotate_left
           ·intro hJ1_3_9
            refine join_ (σ := Value × Nat) 9 #[true, true, true, true, false, false, false, false, false, false, true, false, false, false] (fun s_ => [(20, .agg #[s_.1]), (22, .agg #[.int .i64 t219, .int .i64 t220, .int .i64 t221, .int .i64 t222, .int .i64 t223, .int .i64 t224]), (7, .pointer (some ⟨s_.2, 0, none⟩))]) (fun s_ w' => (w'.cell? ⟨gb213, 0, none⟩ = some (.slice A0_0 l0_0.length c0_0) ∧ w'.cell? ⟨gb214, 0, none⟩ = some (.int .i64 a1_0) ∧ w'.cell? ⟨gb214, 1, none⟩ = some (.int .i64 a1_1) ∧ w'.cell? ⟨gb214, 2, none⟩ = some (.int .i64 a1_2) ∧ w'.cell? ⟨gb214, 3, none⟩ = some (.int .i64 a1_3) ∧ w'.cell? ⟨gb214, 4, none⟩ = some (.int .i64 a1_4) ∧ w'.cell? ⟨gb214, 5, none⟩ = some (.int .i64 a1_5)) ∧ (Kd.S (Kd.slice 5 (Kd.int .u8)) 65 w' w.heap.size (fun _ => True) s_.1 t216) ∧ (w'.heap[gb213]? = some (.cells #[.slice A0_0 l0_0.length c0_0] 24 (0, 0))) ∧ (w'.heap[gb214]? = some (.cells #[.int .i64 a1_0, .int .i64 a1_1, .int .i64 a1_2, .int .i64 a1_3, .int .i64 a1_4, .int .i64 a1_5] 28 (0, 0))) ∧ (w'.heap[s_.2]? = some (.cells #[.int .i64 0, .int .i64 0, .int .i64 0, .int .i64 0] 34 (0, 0))) ∧ (w.heap.size ≤ s_.2) ∧ (w.heap.size ≤ s_.2) ∧ (gb213 ≠ s_.2) ∧ (s_.2 ≠ gb213) ∧ (gb214 ≠ s_.2) ∧ (s_.2 ≠ gb214) ∧ (Below w.heap.size w w')) ?_ ?_
            rotate_left
            ·intro hJ1_3_10
             refine join_ (σ := Value × Nat × Nat) 9 #[true, true, true, false, false, false, false, false, false, true, true, false, false, false] (fun s_ => [(20, .agg #[s_.1]), (6, .pointer (some ⟨s_.2.1, 0, none⟩)), (7, .pointer (some ⟨s_.2.2, 0, none⟩))]) (fun s_ w' => (w'.cell? ⟨gb213, 0, none⟩ = some (.slice A0_0 l0_0.length c0_0) ∧ w'.cell? ⟨gb214, 0, none⟩ = some (.int .i64 a1_0) ∧ w'.cell? ⟨gb214, 1, none⟩ = some (.int .i64 a1_1) ∧ w'.cell? ⟨gb214, 2, none⟩ = some (.int .i64 a1_2) ∧ w'.cell? ⟨gb214, 3, none⟩ = some (.int .i64 a1_3) ∧ w'.cell? ⟨gb214, 4, none⟩ = some (.int .i64 a1_4) ∧ w'.cell? ⟨gb214, 5, none⟩ = some (.int .i64 a1_5)) ∧ (Kd.S (Kd.slice 5 (Kd.int .u8)) 65 w' w.heap.size (fun _ => True) s_.1 t216) ∧ (w'.heap[gb213]? = some (.cells #[.slice A0_0 l0_0.length c0_0] 24 (0, 0))) ∧ (w'.heap[gb214]? = some (.cells #[.int .i64 a1_0, .int .i64 a1_1, .int .i64 a1_2, .int .i64 a1_3, .int .i64 a1_4, .int .i64 a1_5] 28 (0, 0))) ∧ (w'.heap[s_.2.1]? = some (.cells #[.int .i64 0, .int .i64 0, .int .i64 0, .int .i64 0] 34 (0, 0))) ∧ (w'.heap[s_.2.2]? = some (.cells #[.int .i64 0, .int .i64 0, .int .i64 0, .int .i64 0] 34 (0, 0))) ∧ (w.heap.size ≤ s_.2.1) ∧ (w.heap.size ≤ s_.2.1) ∧ (gb213 ≠ s_.2.1) ∧ (s_.2.1 ≠ gb213) ∧ (gb214 ≠ s_.2.1) ∧ (s_.2.1 ≠ gb214) ∧ (s_.2.2 ≠ s_.2.1) ∧ (s_.2.1 ≠ s_.2.2) ∧ (w.heap.size ≤ s_.2.2) ∧ (w.heap.size ≤ s_.2.2) ∧ (gb213 ≠ s_.2.2) ∧ (s_.2.2 ≠ gb213) ∧ (gb214 ≠ s_.2.2) ∧ (s_.2.2 ≠ gb214) ∧ (Below w.heap.size w w')) ?_ ?_
             rotate_left
             ·intro hJ1_9_10
              refine join_ (σ := Value) 10 #[true, true, true, true, false, false, false, false, false, false, false, false, false, false] (fun s_ => [(20, .agg #[s_]), (22, .agg #[.int .i64 t219, .int .i64 t220, .int .i64 t221, .int .i64 t222, .int .i64 t223, .int .i64 t224])]) (fun s_ w' => (w'.cell? ⟨gb213, 0, none⟩ = some (.slice A0_0 l0_0.length c0_0) ∧ w'.cell? ⟨gb214, 0, none⟩ = some (.int .i64 a1_0) ∧ w'.cell? ⟨gb214, 1, none⟩ = some (.int .i64 a1_1) ∧ w'.cell? ⟨gb214, 2, none⟩ = some (.int .i64 a1_2) ∧ w'.cell? ⟨gb214, 3, none⟩ = some (.int .i64 a1_3) ∧ w'.cell? ⟨gb214, 4, none⟩ = some (.int .i64 a1_4) ∧ w'.cell? ⟨gb214, 5, none⟩ = some (.int .i64 a1_5)) ∧ (Kd.S (Kd.slice 5 (Kd.int .u8)) 65 w' w.heap.size (fun _ => True) s_ t216) ∧ (w'.heap[gb213]? = some (.cells #[.slice A0_0 l0_0.length c0_0] 24 (0, 0))) ∧ (w'.heap[gb214]? = some (.cells #[.int .i64 a1_0, .int .i64 a1_1, .int .i64 a1_2, .int .i64 a1_3, .int .i64 a1_4, .int .i64 a1_5] 28 (0, 0))) ∧ (Below w.heap.size w w')) ?_ ?_
              rotate_left
              ·intro hJ1_3
               refine join_ (σ := Value × Nat) 10 #[true, true, true, false, false, false, false, false, false, true, false, false, false, false] (fun s_ => [(20, .agg #[s_.1]), (6, .pointer (some ⟨s_.2, 0, none⟩))]) (fun s_ w' => (w'.cell? ⟨gb213, 0, none⟩ = some (.slice A0_0 l0_0.length c0_0) ∧ w'.cell? ⟨gb214, 0, none⟩ = some (.int .i64 a1_0) ∧ w'.cell? ⟨gb214, 1, none⟩ = some (.int .i64 a1_1) ∧ w'.cell? ⟨gb214, 2, none⟩ = some (.int .i64 a1_2) ∧ w'.cell? ⟨gb214, 3, none⟩ = some (.int .i64 a1_3) ∧ w'.cell? ⟨gb214, 4, none⟩ = some (.int .i64 a1_4) ∧ w'.cell? ⟨gb214, 5, none⟩ = some (.int .i64 a1_5)) ∧ (Kd.S (Kd.slice 5 (Kd.int .u8)) 65 w' w.heap.size (fun _ => True) s_.1 t216) ∧ (w'.heap[gb213]? = some (.cells #[.slice A0_0 l0_0.length c0_0] 24 (0, 0))) ∧ (w'.heap[gb214]? = some (.cells #[.int .i64 a1_0, .int .i64 a1_1, .int .i64 a1_2, .int .i64 a1_3, .int .i64 a1_4, .int .i64 a1_5] 28 (0, 0))) ∧ (w'.heap[s_.2]? = some (.cells #[.int .i64 0, .int .i64 0, .int .i64 0, .int .i64 0] 34 (0, 0))) ∧ (w.heap.size ≤ s_.2) ∧ (w.heap.size ≤ s_.2) ∧ (gb213 ≠ s_.2) ∧ (s_.2 ≠ gb213) ∧ (gb214 ≠ s_.2) ∧ (s_.2 ≠ gb214) ∧ (Below w.heap.size w w')) ?_ ?_
               rotate_left
               ·intro hJ1_9
                refine join_ (σ := Value × Nat) 10 #[true, true, true, false, false, false, false, false, false, false, true, false, false, false] (fun s_ => [(20, .agg #[s_.1]), (7, .pointer (some ⟨s_.2, 0, none⟩))]) (fun s_ w' => (w'.cell? ⟨gb213, 0, none⟩ = some (.slice A0_0 l0_0.length c0_0) ∧ w'.cell? ⟨gb214, 0, none⟩ = some (.int .i64 a1_0) ∧ w'.cell? ⟨gb214, 1, none⟩ = some (.int .i64 a1_1) ∧ w'.cell? ⟨gb214, 2, none⟩ = some (.int .i64 a1_2) ∧ w'.cell? ⟨gb214, 3, none⟩ = some (.int .i64 a1_3) ∧ w'.cell? ⟨gb214, 4, none⟩ = some (.int .i64 a1_4) ∧ w'.cell? ⟨gb214, 5, none⟩ = some (.int .i64 a1_5)) ∧ (Kd.S (Kd.slice 5 (Kd.int .u8)) 65 w' w.heap.size (fun _ => True) s_.1 t216) ∧ (w'.heap[gb213]? = some (.cells #[.slice A0_0 l0_0.length c0_0] 24 (0, 0))) ∧ (w'.heap[gb214]? = some (.cells #[.int .i64 a1_0, .int .i64 a1_1, .int .i64 a1_2, .int .i64 a1_3, .int .i64 a1_4, .int .i64 a1_5] 28 (0, 0))) ∧ (w'.heap[s_.2]? = some (.cells #[.int .i64 0, .int .i64 0, .int .i64 0, .int .i64 0] 34 (0, 0))) ∧ (w.heap.size ≤ s_.2) ∧ (w.heap.size ≤ s_.2) ∧ (gb213 ≠ s_.2) ∧ (s_.2 ≠ gb213) ∧ (gb214 ≠ s_.2) ∧ (s_.2 ≠ gb214) ∧ (Below w.heap.size w w')) ?_ ?_
                rotate_left
                ·intro hJ1_10
                 refine join_ (σ := Nat × Nat) 10 #[true, false, true, false, false, false, false, false, false, true, true, false, false, false] (fun s_ => [(6, .pointer (some ⟨s_.1, 0, none⟩)), (7, .pointer (some ⟨s_.2, 0, none⟩))]) (fun s_ w' => (w'.cell? ⟨gb213, 0, none⟩ = some (.slice A0_0 l0_0.length c0_0) ∧ w'.cell? ⟨gb214, 0, none⟩ = some (.int .i64 a1_0) ∧ w'.cell? ⟨gb214, 1, none⟩ = some (.int .i64 a1_1) ∧ w'.cell? ⟨gb214, 2, none⟩ = some (.int .i64 a1_2) ∧ w'.cell? ⟨gb214, 3, none⟩ = some (.int .i64 a1_3) ∧ w'.cell? ⟨gb214, 4, none⟩ = some (.int .i64 a1_4) ∧ w'.cell? ⟨gb214, 5, none⟩ = some (.int .i64 a1_5)) ∧ (w'.heap[gb213]? = some (.cells #[.slice A0_0 l0_0.length c0_0] 24 (0, 0))) ∧ (w'.heap[gb214]? = some (.cells #[.int .i64 a1_0, .int .i64 a1_1, .int .i64 a1_2, .int .i64 a1_3, .int .i64 a1_4, .int .i64 a1_5] 28 (0, 0))) ∧ (w'.heap[s_.1]? = some (.cells #[.int .i64 0, .int .i64 0, .int .i64 0, .int .i64 0] 34 (0, 0))) ∧ (w'.heap[s_.2]? = some (.cells #[.int .i64 0, .int .i64 0, .int .i64 0, .int .i64 0] 34 (0, 0))) ∧ (w.heap.size ≤ s_.1) ∧ (w.heap.size ≤ s_.1) ∧ (gb213 ≠ s_.1) ∧ (s_.1 ≠ gb213) ∧ (gb214 ≠ s_.1) ∧ (s_.1 ≠ gb214) ∧ (s_.2 ≠ s_.1) ∧ (s_.1 ≠ s_.2) ∧ (w.heap.size ≤ s_.2) ∧ (w.heap.size ≤ s_.2) ∧ (gb213 ≠ s_.2) ∧ (s_.2 ≠ gb213) ∧ (gb214 ≠ s_.2) ∧ (s_.2 ≠ gb214) ∧ (Below w.heap.size w w')) ?_ ?_
                 rotate_left
                 ·intro hJ9_10
                  refine join_ (σ := Value) 11 #[true, true, true, false, false, false, false, false, false, false, false, false, false, false] (fun s_ => [(20, .agg #[s_])]) (fun s_ w' => (w'.cell? ⟨gb213, 0, none⟩ = some (.slice A0_0 l0_0.length c0_0) ∧ w'.cell? ⟨gb214, 0, none⟩ = some (.int .i64 a1_0) ∧ w'.cell? ⟨gb214, 1, none⟩ = some (.int .i64 a1_1) ∧ w'.cell? ⟨gb214, 2, none⟩ = some (.int .i64 a1_2) ∧ w'.cell? ⟨gb214, 3, none⟩ = some (.int .i64 a1_3) ∧ w'.cell? ⟨gb214, 4, none⟩ = some (.int .i64 a1_4) ∧ w'.cell? ⟨gb214, 5, none⟩ = some (.int .i64 a1_5)) ∧ (Kd.S (Kd.slice 5 (Kd.int .u8)) 65 w' w.heap.size (fun _ => True) s_ t216) ∧ (w'.heap[gb213]? = some (.cells #[.slice A0_0 l0_0.length c0_0] 24 (0, 0))) ∧ (w'.heap[gb214]? = some (.cells #[.int .i64 a1_0, .int .i64 a1_1, .int .i64 a1_2, .int .i64 a1_3, .int .i64 a1_4, .int .i64 a1_5] 28 (0, 0))) ∧ (Below w.heap.size w w')) ?_ ?_
                  rotate_left
                  ·intro hJ1
                   refine join_ (σ := Nat) 11 #[true, false, true, false, false, false, false, false, false, true, false, false, false, false] (fun s_ => [(6, .pointer (some ⟨s_, 0, none⟩))]) (fun s_ w' => (w'.cell? ⟨gb213, 0, none⟩ = some (.slice A0_0 l0_0.length c0_0) ∧ w'.cell? ⟨gb214, 0, none⟩ = some (.int .i64 a1_0) ∧ w'.cell? ⟨gb214, 1, none⟩ = some (.int .i64 a1_1) ∧ w'.cell? ⟨gb214, 2, none⟩ = some (.int .i64 a1_2) ∧ w'.cell? ⟨gb214, 3, none⟩ = some (.int .i64 a1_3) ∧ w'.cell? ⟨gb214, 4, none⟩ = some (.int .i64 a1_4) ∧ w'.cell? ⟨gb214, 5, none⟩ = some (.int .i64 a1_5)) ∧ (w'.heap[gb213]? = some (.cells #[.slice A0_0 l0_0.length c0_0] 24 (0, 0))) ∧ (w'.heap[gb214]? = some (.cells #[.int .i64 a1_0, .int .i64 a1_1, .int .i64 a1_2, .int .i64 a1_3, .int .i64 a1_4, .int .i64 a1_5] 28 (0, 0))) ∧ (w'.heap[s_]? = some (.cells #[.int .i64 0, .int .i64 0, .int .i64 0, .int .i64 0] 34 (0, 0))) ∧ (w.heap.size ≤ s_) ∧ (w.heap.size ≤ s_) ∧ (gb213 ≠ s_) ∧ (s_ ≠ gb213) ∧ (gb214 ≠ s_) ∧ (s_ ≠ gb214) ∧ (Below w.heap.size w w')) ?_ ?_
                   rotate_left
                   ·intro hJ9
                    refine join_ (σ := Nat) 11 #[true, false, true, false, false, false, false, false, false, false, true, false, false, false] (fun s_ => [(7, .pointer (some ⟨s_, 0, none⟩))]) (fun s_ w' => (w'.cell? ⟨gb213, 0, none⟩ = some (.slice A0_0 l0_0.length c0_0) ∧ w'.cell? ⟨gb214, 0, none⟩ = some (.int .i64 a1_0) ∧ w'.cell? ⟨gb214, 1, none⟩ = some (.int .i64 a1_1) ∧ w'.cell? ⟨gb214, 2, none⟩ = some (.int .i64 a1_2) ∧ w'.cell? ⟨gb214, 3, none⟩ = some (.int .i64 a1_3) ∧ w'.cell? ⟨gb214, 4, none⟩ = some (.int .i64 a1_4) ∧ w'.cell? ⟨gb214, 5, none⟩ = some (.int .i64 a1_5)) ∧ (w'.heap[gb213]? = some (.cells #[.slice A0_0 l0_0.length c0_0] 24 (0, 0))) ∧ (w'.heap[gb214]? = some (.cells #[.int .i64 a1_0, .int .i64 a1_1, .int .i64 a1_2, .int .i64 a1_3, .int .i64 a1_4, .int .i64 a1_5] 28 (0, 0))) ∧ (w'.heap[s_]? = some (.cells #[.int .i64 0, .int .i64 0, .int .i64 0, .int .i64 0] 34 (0, 0))) ∧ (w.heap.size ≤ s_) ∧ (w.heap.size ≤ s_) ∧ (gb213 ≠ s_) ∧ (s_ ≠ gb213) ∧ (gb214 ≠ s_) ∧ (s_ ≠ gb214) ∧ (Below w.heap.size w w')) ?_ ?_
                    rotate_left
                    ·intro hJ10
                     refine three_ (i := 1) (j := 9) (k := 10) (Ni := some 20) (Nj := some 6) (Nk := some 7) #[true, true, true, false, false, false, false, false, false, false, false, false, false, false] #[true, false, true, false, false, false, false, false, false, true, false, false, false, false] #[true, false, true, false, false, false, false, false, false, false, true, false, false, false] rfl rfl rfl rfl rfl rfl (three_of HT_.out (by kernel_rfl)) (by decide) (by decide) (by decide) (fun K hK => ?_) (fun K hK => ?_) (fun K hK => ?_)
                     ·skip
                      refine goes_ Try.func16 (by kernel_rfl) rfl #[.agg #[.slice A0_0 l0_0.length c0_0]] (by rfl) rfl rfl (by (try simp only [List.map_toArray, List.map_cons, List.map_nil]); first | done | rfl | (simp only [List.length_drop, List.length_take]; rfl)) ?_
                      with_reducible refine (laws_toMemory.calls k _ _ l0_0 t216 _ ?side1 ?side2 A10.out).mono ?_
                      (case side1 => repeat (first | exact (Kd.C_below HR0_0.out HB.out) | (with_reducible refine Kd.C_alloc ?_ _) | (with_reducible refine Kd.C_drewN ?_ _) | (with_reducible refine Kd.C_drew ?_)))
                      (case side2 => exact HC0_0.out)
                      rintro e w30 ⟨v217, rfl, ho0, hb⟩
                      refine ⟨_, rfl, ?_⟩
                      have HO218 := Aside0.mk (Kd.S_lower ho0 (below_size (zh0 HB)))
                      replace BK213 := zb0 BK213 hb
                      replace BK214 := zb0 BK214 hb
                      replace HB := zhs HB hb
                      (try clear hb)
                      (try clear hb2)
                      (try clear hk)
                      (try clear hi)
                      (try clear ho0)
                      refine hK.out _ _ ⟨zc0 BK213 0 rfl, zc0 BK214 0 rfl, zc0 BK214 1 rfl, zc0 BK214 2 rfl, zc0 BK214 3 rfl, zc0 BK214 4 rfl, zc0 BK214 5 rfl⟩ (fun hHeld => ?_)
                      clear hK K
                      refine norm_ (a' := ?_) ?_ ?_
                      rotate_left
                      ·show Act.put _ (some 20) _ = _
                       simp only [Act.put, zp1, zp2, zp3, i64_w, i32_w]
                       rfl
                      exact norm_ (by simp only [putAll, Act.put, zp1, zp2, zp3]; first | done | rfl) (hJ1 (v217) _ ⟨hHeld, (zs0 HO218), (zk0 BK213), (zk0 BK214), (zh0 HB)⟩)
                     ·skip
                      refine box_step ?hg (N := 6) ?hd (cs := #[.int .i64 0, .int .i64 0, .int .i64 0, .int .i64 0]) (t := 34) ?hr ?_; (case hd => rfl); (case hg => rfl); (case hr => first | (go_simp; done) | (go_simp; rfl))
                      intro gb234 hg w30 hbox hb
                      have BK234 := Aside0.mk (hbox)
                      have GW234 := zge HB hg
                      have GE234 := zge HB hg
                      have NB213_234 := znl BK213 hg
                      have NB234_213 := znr BK213 hg
                      have NB214_234 := znl BK214 hg
                      have NB234_214 := znr BK214 hg
                      replace BK213 := zb0 BK213 hb
                      replace BK214 := zb0 BK214 hb
                      replace HB := zhs HB hb
                      clear hb hbox hg
                      refine hK.out _ _ ⟨zc0 BK213 0 rfl, zc0 BK214 0 rfl, zc0 BK214 1 rfl, zc0 BK214 2 rfl, zc0 BK214 3 rfl, zc0 BK214 4 rfl, zc0 BK214 5 rfl⟩ (fun hHeld => ?_)
                      clear hK K
                      refine norm_ (a' := ?_) ?_ ?_
                      rotate_left
                      ·show Act.put _ (some 6) _ = _
                       simp only [Act.put, zp1, zp2, zp3, i64_w, i32_w]
                       rfl
                      exact norm_ (by simp only [putAll, Act.put, zp1, zp2, zp3]; first | done | rfl) (hJ9 (gb234) _ ⟨hHeld, (zk0 BK213), (zk0 BK214), (zk0 BK234), GW234.out, GE234.out, NB213_234.out, NB234_213.out, NB214_234.out, NB234_214.out, (zh0 HB)⟩)
                     ·skip
                      refine box_step ?hg (N := 7) ?hd (cs := #[.int .i64 0, .int .i64 0, .int .i64 0, .int .i64 0]) (t := 34) ?hr ?_; (case hd => rfl); (case hg => rfl); (case hr => first | (go_simp; done) | (go_simp; rfl))
                      intro gb235 hg w30 hbox hb
                      have BK235 := Aside0.mk (hbox)
                      have GW235 := zge HB hg
                      have GE235 := zge HB hg
                      have NB213_235 := znl BK213 hg
                      have NB235_213 := znr BK213 hg
                      have NB214_235 := znl BK214 hg
                      have NB235_214 := znr BK214 hg
                      replace BK213 := zb0 BK213 hb
                      replace BK214 := zb0 BK214 hb
                      replace HB := zhs HB hb
                      clear hb hbox hg
                      refine hK.out _ _ ⟨zc0 BK213 0 rfl, zc0 BK214 0 rfl, zc0 BK214 1 rfl, zc0 BK214 2 rfl, zc0 BK214 3 rfl, zc0 BK214 4 rfl, zc0 BK214 5 rfl⟩ (fun hHeld => ?_)
                      clear hK K
                      refine norm_ (a' := ?_) ?_ ?_
                      rotate_left
                      ·show Act.put _ (some 7) _ = _
                       simp only [Act.put, zp1, zp2, zp3, i64_w, i32_w]
                       rfl
                      exact norm_ (by simp only [putAll, Act.put, zp1, zp2, zp3]; first | done | rfl) (hJ10 (gb235) _ ⟨hHeld, (zk0 BK213), (zk0 BK214), (zk0 BK235), GW235.out, GE235.out, NB213_235.out, NB235_213.out, NB214_235.out, NB235_214.out, (zh0 HB)⟩)
                    ·skip
                     rintro gb235 w31 ⟨hS_, h0_, h1_, h2_, h3_, h4_, h5_, h6_, h7_, h8_, h9_⟩
                     try dsimp only at hS_ h0_ h1_ h2_ h3_ h4_ h5_ h6_ h7_ h8_ h9_
                     have BK235 := Aside0.mk h2_
                     have GW235 := Aside0.mk h3_
                     have GE235 := Aside0.mk h4_
                     have NB213_235 := Aside0.mk h5_
                     have NB235_213 := Aside0.mk h6_
                     have NB214_235 := Aside0.mk h7_
                     have NB235_214 := Aside0.mk h8_
                     replace BK213 := Aside0.mk h0_
                     replace BK214 := Aside0.mk h1_
                     replace HB := Aside0.mk h9_
                     clear h0_ h1_ h2_ h3_ h4_ h5_ h6_ h7_ h8_ h9_
                     have hHeld := hS_
                     refine norm_ (a' := ?_) ?_ ?_
                     rotate_left
                     ·simp only [putAll, Act.put, zp1, zp2, zp3]
                      rfl
                     refine two_ (i := 1) (j := 9) (Ni := some 20) (Nj := some 6) #[true, true, true, false, false, false, false, false, false, false, true, false, false, false] #[true, false, true, false, false, false, false, false, false, true, true, false, false, false] rfl rfl rfl rfl (two_of HT_.out (by kernel_rfl)) (by decide) (by decide) (fun K hK => ?_) (fun K hK => ?_)
                     ·skip
                      refine goes_ Try.func16 (by kernel_rfl) rfl #[.agg #[.slice A0_0 l0_0.length c0_0]] (by rfl) rfl rfl (by (try simp only [List.map_toArray, List.map_cons, List.map_nil]); first | done | rfl | (simp only [List.length_drop, List.length_take]; rfl)) ?_
                      with_reducible refine (laws_toMemory.calls k _ _ l0_0 t216 _ ?side1 ?side2 A10.out).mono ?_
                      (case side1 => repeat (first | exact (Kd.C_below HR0_0.out HB.out) | (with_reducible refine Kd.C_alloc ?_ _) | (with_reducible refine Kd.C_drewN ?_ _) | (with_reducible refine Kd.C_drew ?_)))
                      (case side2 => exact HC0_0.out)
                      rintro e w32 ⟨v217, rfl, ho0, hb⟩
                      refine ⟨_, rfl, ?_⟩
                      have HO218 := Aside0.mk (Kd.S_lower ho0 (below_size (zh0 HB)))
                      replace BK213 := zb0 BK213 hb
                      replace BK214 := zb0 BK214 hb
                      replace BK235 := zb0 BK235 hb
                      replace HB := zhs HB hb
                      (try clear hb)
                      (try clear hb2)
                      (try clear hk)
                      (try clear hi)
                      (try clear ho0)
                      refine hK.out _ _ ⟨zc0 BK213 0 rfl, zc0 BK214 0 rfl, zc0 BK214 1 rfl, zc0 BK214 2 rfl, zc0 BK214 3 rfl, zc0 BK214 4 rfl, zc0 BK214 5 rfl⟩ (fun hHeld => ?_)
                      clear hK K
                      refine norm_ (a' := ?_) ?_ ?_
                      rotate_left
                      ·show Act.put _ (some 20) _ = _
                       simp only [Act.put, zp1, zp2, zp3, i64_w, i32_w]
                       rfl
                      exact norm_ (by simp only [putAll, Act.put, zp1, zp2, zp3]; first | done | rfl) (hJ1_10 (v217, gb235) _ ⟨hHeld, (zs0 HO218), (zk0 BK213), (zk0 BK214), (zk0 BK235), GW235.out, GE235.out, NB213_235.out, NB235_213.out, NB214_235.out, NB235_214.out, (zh0 HB)⟩)
                     ·skip
                      refine box_step ?hg (N := 6) ?hd (cs := #[.int .i64 0, .int .i64 0, .int .i64 0, .int .i64 0]) (t := 34) ?hr ?_; (case hd => rfl); (case hg => rfl); (case hr => first | (go_simp; done) | (go_simp; rfl))
                      intro gb234 hg w32 hbox hb
                      have BK234 := Aside0.mk (hbox)
                      have GW234 := zge HB hg
                      have GE234 := zge HB hg
                      have NB213_234 := znl BK213 hg
                      have NB234_213 := znr BK213 hg
                      have NB214_234 := znl BK214 hg
                      have NB234_214 := znr BK214 hg
                      have NB235_234 := znl BK235 hg
                      have NB234_235 := znr BK235 hg
                      replace BK213 := zb0 BK213 hb
                      replace BK214 := zb0 BK214 hb
                      replace BK235 := zb0 BK235 hb
                      replace HB := zhs HB hb
                      clear hb hbox hg
                      refine hK.out _ _ ⟨zc0 BK213 0 rfl, zc0 BK214 0 rfl, zc0 BK214 1 rfl, zc0 BK214 2 rfl, zc0 BK214 3 rfl, zc0 BK214 4 rfl, zc0 BK214 5 rfl⟩ (fun hHeld => ?_)
                      clear hK K
                      refine norm_ (a' := ?_) ?_ ?_
                      rotate_left
                      ·show Act.put _ (some 6) _ = _
                       simp only [Act.put, zp1, zp2, zp3, i64_w, i32_w]
                       rfl
                      exact norm_ (by simp only [putAll, Act.put, zp1, zp2, zp3]; first | done | rfl) (hJ9_10 (gb234, gb235) _ ⟨hHeld, (zk0 BK213), (zk0 BK214), (zk0 BK234), (zk0 BK235), GW234.out, GE234.out, NB213_234.out, NB234_213.out, NB214_234.out, NB234_214.out, NB235_234.out, NB234_235.out, GW235.out, GE235.out, NB213_235.out, NB235_213.out, NB214_235.out, NB235_214.out, (zh0 HB)⟩)
                   ·skip
                    rintro gb234 w31 ⟨hS_, h0_, h1_, h2_, h3_, h4_, h5_, h6_, h7_, h8_, h9_⟩
                    try dsimp only at hS_ h0_ h1_ h2_ h3_ h4_ h5_ h6_ h7_ h8_ h9_
                    have BK234 := Aside0.mk h2_
                    have GW234 := Aside0.mk h3_
                    have GE234 := Aside0.mk h4_
                    have NB213_234 := Aside0.mk h5_
                    have NB234_213 := Aside0.mk h6_
                    have NB214_234 := Aside0.mk h7_
                    have NB234_214 := Aside0.mk h8_
                    replace BK213 := Aside0.mk h0_
                    replace BK214 := Aside0.mk h1_
                    replace HB := Aside0.mk h9_
                    clear h0_ h1_ h2_ h3_ h4_ h5_ h6_ h7_ h8_ h9_
                    have hHeld := hS_
                    refine norm_ (a' := ?_) ?_ ?_
                    rotate_left
                    ·simp only [putAll, Act.put, zp1, zp2, zp3]
                     rfl
                    refine two_ (i := 1) (j := 10) (Ni := some 20) (Nj := some 7) #[true, true, true, false, false, false, false, false, false, true, false, false, false, false] #[true, false, true, false, false, false, false, false, false, true, true, false, false, false] rfl rfl rfl rfl (two_of HT_.out (by kernel_rfl)) (by decide) (by decide) (fun K hK => ?_) (fun K hK => ?_)
                    ·skip
                     refine goes_ Try.func16 (by kernel_rfl) rfl #[.agg #[.slice A0_0 l0_0.length c0_0]] (by rfl) rfl rfl (by (try simp only [List.map_toArray, List.map_cons, List.map_nil]); first | done | rfl | (simp only [List.length_drop, List.length_take]; rfl)) ?_
                     with_reducible refine (laws_toMemory.calls k _ _ l0_0 t216 _ ?side1 ?side2 A10.out).mono ?_
                     (case side1 => repeat (first | exact (Kd.C_below HR0_0.out HB.out) | (with_reducible refine Kd.C_alloc ?_ _) | (with_reducible refine Kd.C_drewN ?_ _) | (with_reducible refine Kd.C_drew ?_)))
                     (case side2 => exact HC0_0.out)
                     rintro e w32 ⟨v217, rfl, ho0, hb⟩
                     refine ⟨_, rfl, ?_⟩
                     have HO218 := Aside0.mk (Kd.S_lower ho0 (below_size (zh0 HB)))
                     replace BK213 := zb0 BK213 hb
                     replace BK214 := zb0 BK214 hb
                     replace BK234 := zb0 BK234 hb
                     replace HB := zhs HB hb
                     (try clear hb)
                     (try clear hb2)
                     (try clear hk)
                     (try clear hi)
                     (try clear ho0)
                     refine hK.out _ _ ⟨zc0 BK213 0 rfl, zc0 BK214 0 rfl, zc0 BK214 1 rfl, zc0 BK214 2 rfl, zc0 BK214 3 rfl, zc0 BK214 4 rfl, zc0 BK214 5 rfl⟩ (fun hHeld => ?_)
                     clear hK K
                     refine norm_ (a' := ?_) ?_ ?_
                     rotate_left
                     ·show Act.put _ (some 20) _ = _
                      simp only [Act.put, zp1, zp2, zp3, i64_w, i32_w]
                      rfl
                     exact norm_ (by simp only [putAll, Act.put, zp1, zp2, zp3]; first | done | rfl) (hJ1_9 (v217, gb234) _ ⟨hHeld, (zs0 HO218), (zk0 BK213), (zk0 BK214), (zk0 BK234), GW234.out, GE234.out, NB213_234.out, NB234_213.out, NB214_234.out, NB234_214.out, (zh0 HB)⟩)
                    ·skip
                     refine box_step ?hg (N := 7) ?hd (cs := #[.int .i64 0, .int .i64 0, .int .i64 0, .int .i64 0]) (t := 34) ?hr ?_; (case hd => rfl); (case hg => rfl); (case hr => first | (go_simp; done) | (go_simp; rfl))
                     intro gb235 hg w32 hbox hb
                     have BK235 := Aside0.mk (hbox)
                     have GW235 := zge HB hg
                     have GE235 := zge HB hg
                     have NB213_235 := znl BK213 hg
                     have NB235_213 := znr BK213 hg
                     have NB214_235 := znl BK214 hg
                     have NB235_214 := znr BK214 hg
                     have NB234_235 := znl BK234 hg
                     have NB235_234 := znr BK234 hg
                     replace BK213 := zb0 BK213 hb
                     replace BK214 := zb0 BK214 hb
                     replace BK234 := zb0 BK234 hb
                     replace HB := zhs HB hb
                     clear hb hbox hg
                     refine hK.out _ _ ⟨zc0 BK213 0 rfl, zc0 BK214 0 rfl, zc0 BK214 1 rfl, zc0 BK214 2 rfl, zc0 BK214 3 rfl, zc0 BK214 4 rfl, zc0 BK214 5 rfl⟩ (fun hHeld => ?_)
                     clear hK K
                     refine norm_ (a' := ?_) ?_ ?_
                     rotate_left
                     ·show Act.put _ (some 7) _ = _
                      simp only [Act.put, zp1, zp2, zp3, i64_w, i32_w]
                      rfl
                     exact norm_ (by simp only [putAll, Act.put, zp1, zp2, zp3]; first | done | rfl) (hJ9_10 (gb234, gb235) _ ⟨hHeld, (zk0 BK213), (zk0 BK214), (zk0 BK234), (zk0 BK235), GW234.out, GE234.out, NB213_234.out, NB234_213.out, NB214_234.out, NB234_214.out, NB235_234.out, NB234_235.out, GW235.out, GE235.out, NB213_235.out, NB235_213.out, NB214_235.out, NB235_214.out, (zh0 HB)⟩)
                  ·skip
                   rintro v217 w31 ⟨hS_, h0_, h1_, h2_, h3_⟩
                   try dsimp only at hS_ h0_ h1_ h2_ h3_
                   have HO218 := Aside0.mk h0_
                   replace BK213 := Aside0.mk h1_
                   replace BK214 := Aside0.mk h2_
                   replace HB := Aside0.mk h3_
                   clear h0_ h1_ h2_ h3_
                   have hHeld := hS_
                   refine norm_ (a' := ?_) ?_ ?_
                   rotate_left
                   ·simp only [putAll, Act.put, zp1, zp2, zp3]
                    rfl
                   refine three_ (i := 3) (j := 9) (k := 10) (Ni := some 22) (Nj := some 6) (Nk := some 7) #[true, true, true, true, false, false, false, false, false, false, false, false, false, false] #[true, true, true, false, false, false, false, false, false, true, false, false, false, false] #[true, true, true, false, false, false, false, false, false, false, true, false, false, false] rfl rfl rfl rfl rfl rfl (three_of HT_.out (by kernel_rfl)) (by decide) (by decide) (by decide) (fun K hK => ?_) (fun K hK => ?_) (fun K hK => ?_)
                   ·skip
                    refine goes_ Try.func17 (by kernel_rfl) rfl #[.agg #[.int .i64 a1_0, .int .i64 a1_1, .int .i64 a1_2, .int .i64 a1_3, .int .i64 a1_4, .int .i64 a1_5]] (by rfl) rfl rfl (by (try simp only [List.map_toArray, List.map_cons, List.map_nil]); first | done | rfl | (simp only [List.length_drop, List.length_take]; rfl)) ?_
                    with_reducible refine (laws_toRing.calls a1_0 a1_1 a1_2 a1_3 a1_4 a1_5 t219 t220 t221 t222 t223 t224 _ A11.out).mono ?_
                    rintro e w32 ⟨rfl, hb⟩
                    refine ⟨_, rfl, ?_⟩
                    replace HO218 := zsb HO218 hb
                    replace BK213 := zb0 BK213 hb
                    replace BK214 := zb0 BK214 hb
                    replace HB := zhs HB hb
                    (try clear hb)
                    (try clear hb2)
                    (try clear hk)
                    (try clear hi)
                    refine hK.out _ _ ⟨zc0 BK213 0 rfl, zc0 BK214 0 rfl, zc0 BK214 1 rfl, zc0 BK214 2 rfl, zc0 BK214 3 rfl, zc0 BK214 4 rfl, zc0 BK214 5 rfl⟩ (fun hHeld => ?_)
                    clear hK K
                    refine norm_ (a' := ?_) ?_ ?_
                    rotate_left
                    ·show Act.put _ (some 22) _ = _
                     simp only [Act.put, zp1, zp2, zp3, i64_w, i32_w]
                     rfl
                    exact norm_ (by simp only [putAll, Act.put, zp1, zp2, zp3]; first | done | rfl) (hJ1_3 (v217) _ ⟨hHeld, (zs0 HO218), (zk0 BK213), (zk0 BK214), (zh0 HB)⟩)
                   ·skip
                    refine box_step ?hg (N := 6) ?hd (cs := #[.int .i64 0, .int .i64 0, .int .i64 0, .int .i64 0]) (t := 34) ?hr ?_; (case hd => rfl); (case hg => rfl); (case hr => first | (go_simp; done) | (go_simp; rfl))
                    intro gb234 hg w32 hbox hb
                    have BK234 := Aside0.mk (hbox)
                    have GW234 := zge HB hg
                    have GE234 := zge HB hg
                    have NB213_234 := znl BK213 hg
                    have NB234_213 := znr BK213 hg
                    have NB214_234 := znl BK214 hg
                    have NB234_214 := znr BK214 hg
                    replace HO218 := zsb HO218 hb
                    replace BK213 := zb0 BK213 hb
                    replace BK214 := zb0 BK214 hb
                    replace HB := zhs HB hb
                    clear hb hbox hg
                    refine hK.out _ _ ⟨zc0 BK213 0 rfl, zc0 BK214 0 rfl, zc0 BK214 1 rfl, zc0 BK214 2 rfl, zc0 BK214 3 rfl, zc0 BK214 4 rfl, zc0 BK214 5 rfl⟩ (fun hHeld => ?_)
                    clear hK K
                    refine norm_ (a' := ?_) ?_ ?_
                    rotate_left
                    ·show Act.put _ (some 6) _ = _
                     simp only [Act.put, zp1, zp2, zp3, i64_w, i32_w]
                     rfl
                    exact norm_ (by simp only [putAll, Act.put, zp1, zp2, zp3]; first | done | rfl) (hJ1_9 (v217, gb234) _ ⟨hHeld, (zs0 HO218), (zk0 BK213), (zk0 BK214), (zk0 BK234), GW234.out, GE234.out, NB213_234.out, NB234_213.out, NB214_234.out, NB234_214.out, (zh0 HB)⟩)
                   ·skip
                    refine box_step ?hg (N := 7) ?hd (cs := #[.int .i64 0, .int .i64 0, .int .i64 0, .int .i64 0]) (t := 34) ?hr ?_; (case hd => rfl); (case hg => rfl); (case hr => first | (go_simp; done) | (go_simp; rfl))
                    intro gb235 hg w32 hbox hb
                    have BK235 := Aside0.mk (hbox)
                    have GW235 := zge HB hg
                    have GE235 := zge HB hg
                    have NB213_235 := znl BK213 hg
                    have NB235_213 := znr BK213 hg
                    have NB214_235 := znl BK214 hg
                    have NB235_214 := znr BK214 hg
                    replace HO218 := zsb HO218 hb
                    replace BK213 := zb0 BK213 hb
                    replace BK214 := zb0 BK214 hb
                    replace HB := zhs HB hb
                    clear hb hbox hg
                    refine hK.out _ _ ⟨zc0 BK213 0 rfl, zc0 BK214 0 rfl, zc0 BK214 1 rfl, zc0 BK214 2 rfl, zc0 BK214 3 rfl, zc0 BK214 4 rfl, zc0 BK214 5 rfl⟩ (fun hHeld => ?_)
                    clear hK K
                    refine norm_ (a' := ?_) ?_ ?_
                    rotate_left
                    ·show Act.put _ (some 7) _ = _
                     simp only [Act.put, zp1, zp2, zp3, i64_w, i32_w]
                     rfl
                    exact norm_ (by simp only [putAll, Act.put, zp1, zp2, zp3]; first | done | rfl) (hJ1_10 (v217, gb235) _ ⟨hHeld, (zs0 HO218), (zk0 BK213), (zk0 BK214), (zk0 BK235), GW235.out, GE235.out, NB213_235.out, NB235_213.out, NB214_235.out, NB235_214.out, (zh0 HB)⟩)
                 ·skip
                  rintro ⟨gb234, gb235⟩ w32 ⟨hS_, h0_, h1_, h2_, h3_, h4_, h5_, h6_, h7_, h8_, h9_, h10_, h11_, h12_, h13_, h14_, h15_, h16_, h17_, h18_⟩
                  try dsimp only at hS_ h0_ h1_ h2_ h3_ h4_ h5_ h6_ h7_ h8_ h9_ h10_ h11_ h12_ h13_ h14_ h15_ h16_ h17_ h18_
                  have BK234 := Aside0.mk h2_
                  have BK235 := Aside0.mk h3_
                  have GW234 := Aside0.mk h4_
                  have GE234 := Aside0.mk h5_
                  have NB213_234 := Aside0.mk h6_
                  have NB234_213 := Aside0.mk h7_
                  have NB214_234 := Aside0.mk h8_
                  have NB234_214 := Aside0.mk h9_
                  have NB235_234 := Aside0.mk h10_
                  have NB234_235 := Aside0.mk h11_
                  have GW235 := Aside0.mk h12_
                  have GE235 := Aside0.mk h13_
                  have NB213_235 := Aside0.mk h14_
                  have NB235_213 := Aside0.mk h15_
                  have NB214_235 := Aside0.mk h16_
                  have NB235_214 := Aside0.mk h17_
                  replace BK213 := Aside0.mk h0_
                  replace BK214 := Aside0.mk h1_
                  replace HB := Aside0.mk h18_
                  clear h0_ h1_ h2_ h3_ h4_ h5_ h6_ h7_ h8_ h9_ h10_ h11_ h12_ h13_ h14_ h15_ h16_ h17_ h18_
                  have hHeld := hS_
                  refine norm_ (a' := ?_) ?_ ?_
                  rotate_left
                  ·simp only [putAll, Act.put, zp1, zp2, zp3]
                   rfl
                  refine one_ (i := 1) (N := some 20) #[true, true, true, false, false, false, false, false, false, true, true, false, false, false] rfl rfl (one_of HT_.out (by kernel_rfl)) (by decide) (fun K hK => ?_)
                  refine goes_ Try.func16 (by kernel_rfl) rfl #[.agg #[.slice A0_0 l0_0.length c0_0]] (by rfl) rfl rfl (by (try simp only [List.map_toArray, List.map_cons, List.map_nil]); first | done | rfl | (simp only [List.length_drop, List.length_take]; rfl)) ?_
                  with_reducible refine (laws_toMemory.calls k _ _ l0_0 t216 _ ?side1 ?side2 A10.out).mono ?_
                  (case side1 => repeat (first | exact (Kd.C_below HR0_0.out HB.out) | (with_reducible refine Kd.C_alloc ?_ _) | (with_reducible refine Kd.C_drewN ?_ _) | (with_reducible refine Kd.C_drew ?_)))
                  (case side2 => exact HC0_0.out)
                  rintro e w33 ⟨v217, rfl, ho0, hb⟩
                  refine ⟨_, rfl, ?_⟩
                  have HO218 := Aside0.mk (Kd.S_lower ho0 (below_size (zh0 HB)))
                  replace BK213 := zb0 BK213 hb
                  replace BK214 := zb0 BK214 hb
                  replace BK234 := zb0 BK234 hb
                  replace BK235 := zb0 BK235 hb
                  replace HB := zhs HB hb
                  (try clear hb)
                  (try clear hb2)
                  (try clear hk)
                  (try clear hi)
                  (try clear ho0)
                  refine hK.out _ _ ⟨zc0 BK213 0 rfl, zc0 BK214 0 rfl, zc0 BK214 1 rfl, zc0 BK214 2 rfl, zc0 BK214 3 rfl, zc0 BK214 4 rfl, zc0 BK214 5 rfl⟩ (fun hHeld => ?_)
                  clear hK K
                  refine norm_ (a' := ?_) ?_ ?_
                  rotate_left
                  ·show Act.put _ (some 20) _ = _
                   simp only [Act.put, zp1, zp2, zp3, i64_w, i32_w]
                   rfl
                  exact norm_ (by simp only [putAll, Act.put, zp1, zp2, zp3]; first | done | rfl) (hJ1_9_10 (v217, gb234, gb235) _ ⟨hHeld, (zs0 HO218), (zk0 BK213), (zk0 BK214), (zk0 BK234), (zk0 BK235), GW234.out, GE234.out, NB213_234.out, NB234_213.out, NB214_234.out, NB234_214.out, NB235_234.out, NB234_235.out, GW235.out, GE235.out, NB213_235.out, NB235_213.out, NB214_235.out, NB235_214.out, (zh0 HB)⟩)
                ·skip
                 rintro ⟨v217, gb235⟩ w32 ⟨hS_, h0_, h1_, h2_, h3_, h4_, h5_, h6_, h7_, h8_, h9_, h10_⟩
                 try dsimp only at hS_ h0_ h1_ h2_ h3_ h4_ h5_ h6_ h7_ h8_ h9_ h10_
                 have HO218 := Aside0.mk h0_
                 have BK235 := Aside0.mk h3_
                 have GW235 := Aside0.mk h4_
                 have GE235 := Aside0.mk h5_
                 have NB213_235 := Aside0.mk h6_
                 have NB235_213 := Aside0.mk h7_
                 have NB214_235 := Aside0.mk h8_
                 have NB235_214 := Aside0.mk h9_
                 replace BK213 := Aside0.mk h1_
                 replace BK214 := Aside0.mk h2_
                 replace HB := Aside0.mk h10_
                 clear h0_ h1_ h2_ h3_ h4_ h5_ h6_ h7_ h8_ h9_ h10_
                 have hHeld := hS_
                 refine norm_ (a' := ?_) ?_ ?_
                 rotate_left
                 ·simp only [putAll, Act.put, zp1, zp2, zp3]
                  rfl
                 refine two_ (i := 3) (j := 9) (Ni := some 22) (Nj := some 6) #[true, true, true, true, false, false, false, false, false, false, true, false, false, false] #[true, true, true, false, false, false, false, false, false, true, true, false, false, false] rfl rfl rfl rfl (two_of HT_.out (by kernel_rfl)) (by decide) (by decide) (fun K hK => ?_) (fun K hK => ?_)
                 ·skip
                  refine goes_ Try.func17 (by kernel_rfl) rfl #[.agg #[.int .i64 a1_0, .int .i64 a1_1, .int .i64 a1_2, .int .i64 a1_3, .int .i64 a1_4, .int .i64 a1_5]] (by rfl) rfl rfl (by (try simp only [List.map_toArray, List.map_cons, List.map_nil]); first | done | rfl | (simp only [List.length_drop, List.length_take]; rfl)) ?_
                  with_reducible refine (laws_toRing.calls a1_0 a1_1 a1_2 a1_3 a1_4 a1_5 t219 t220 t221 t222 t223 t224 _ A11.out).mono ?_
                  rintro e w33 ⟨rfl, hb⟩
                  refine ⟨_, rfl, ?_⟩
                  replace HO218 := zsb HO218 hb
                  replace BK213 := zb0 BK213 hb
                  replace BK214 := zb0 BK214 hb
                  replace BK235 := zb0 BK235 hb
                  replace HB := zhs HB hb
                  (try clear hb)
                  (try clear hb2)
                  (try clear hk)
                  (try clear hi)
                  refine hK.out _ _ ⟨zc0 BK213 0 rfl, zc0 BK214 0 rfl, zc0 BK214 1 rfl, zc0 BK214 2 rfl, zc0 BK214 3 rfl, zc0 BK214 4 rfl, zc0 BK214 5 rfl⟩ (fun hHeld => ?_)
                  clear hK K
                  refine norm_ (a' := ?_) ?_ ?_
                  rotate_left
                  ·show Act.put _ (some 22) _ = _
                   simp only [Act.put, zp1, zp2, zp3, i64_w, i32_w]
                   rfl
                  exact norm_ (by simp only [putAll, Act.put, zp1, zp2, zp3]; first | done | rfl) (hJ1_3_10 (v217, gb235) _ ⟨hHeld, (zs0 HO218), (zk0 BK213), (zk0 BK214), (zk0 BK235), GW235.out, GE235.out, NB213_235.out, NB235_213.out, NB214_235.out, NB235_214.out, (zh0 HB)⟩)
                 ·skip
                  refine box_step ?hg (N := 6) ?hd (cs := #[.int .i64 0, .int .i64 0, .int .i64 0, .int .i64 0]) (t := 34) ?hr ?_; (case hd => rfl); (case hg => rfl); (case hr => first | (go_simp; done) | (go_simp; rfl))
                  intro gb234 hg w33 hbox hb
                  have BK234 := Aside0.mk (hbox)
                  have GW234 := zge HB hg
                  have GE234 := zge HB hg
                  have NB213_234 := znl BK213 hg
                  have NB234_213 := znr BK213 hg
                  have NB214_234 := znl BK214 hg
                  have NB234_214 := znr BK214 hg
                  have NB235_234 := znl BK235 hg
                  have NB234_235 := znr BK235 hg
                  replace HO218 := zsb HO218 hb
                  replace BK213 := zb0 BK213 hb
                  replace BK214 := zb0 BK214 hb
                  replace BK235 := zb0 BK235 hb
                  replace HB := zhs HB hb
                  clear hb hbox hg
                  refine hK.out _ _ ⟨zc0 BK213 0 rfl, zc0 BK214 0 rfl, zc0 BK214 1 rfl, zc0 BK214 2 rfl, zc0 BK214 3 rfl, zc0 BK214 4 rfl, zc0 BK214 5 rfl⟩ (fun hHeld => ?_)
                  clear hK K
                  refine norm_ (a' := ?_) ?_ ?_
                  rotate_left
                  ·show Act.put _ (some 6) _ = _
                   simp only [Act.put, zp1, zp2, zp3, i64_w, i32_w]
                   rfl
                  exact norm_ (by simp only [putAll, Act.put, zp1, zp2, zp3]; first | done | rfl) (hJ1_9_10 (v217, gb234, gb235) _ ⟨hHeld, (zs0 HO218), (zk0 BK213), (zk0 BK214), (zk0 BK234), (zk0 BK235), GW234.out, GE234.out, NB213_234.out, NB234_213.out, NB214_234.out, NB234_214.out, NB235_234.out, NB234_235.out, GW235.out, GE235.out, NB213_235.out, NB235_213.out, NB214_235.out, NB235_214.out, (zh0 HB)⟩)
               ·skip
                rintro ⟨v217, gb234⟩ w32 ⟨hS_, h0_, h1_, h2_, h3_, h4_, h5_, h6_, h7_, h8_, h9_, h10_⟩
                try dsimp only at hS_ h0_ h1_ h2_ h3_ h4_ h5_ h6_ h7_ h8_ h9_ h10_
                have HO218 := Aside0.mk h0_
                have BK234 := Aside0.mk h3_
                have GW234 := Aside0.mk h4_
                have GE234 := Aside0.mk h5_
                have NB213_234 := Aside0.mk h6_
                have NB234_213 := Aside0.mk h7_
                have NB214_234 := Aside0.mk h8_
                have NB234_214 := Aside0.mk h9_
                replace BK213 := Aside0.mk h1_
                replace BK214 := Aside0.mk h2_
                replace HB := Aside0.mk h10_
                clear h0_ h1_ h2_ h3_ h4_ h5_ h6_ h7_ h8_ h9_ h10_
                have hHeld := hS_
                refine norm_ (a' := ?_) ?_ ?_
                rotate_left
                ·simp only [putAll, Act.put, zp1, zp2, zp3]
                 rfl
                refine two_ (i := 3) (j := 10) (Ni := some 22) (Nj := some 7) #[true, true, true, true, false, false, false, false, false, true, false, false, false, false] #[true, true, true, false, false, false, false, false, false, true, true, false, false, false] rfl rfl rfl rfl (two_of HT_.out (by kernel_rfl)) (by decide) (by decide) (fun K hK => ?_) (fun K hK => ?_)
                ·skip
                 refine goes_ Try.func17 (by kernel_rfl) rfl #[.agg #[.int .i64 a1_0, .int .i64 a1_1, .int .i64 a1_2, .int .i64 a1_3, .int .i64 a1_4, .int .i64 a1_5]] (by rfl) rfl rfl (by (try simp only [List.map_toArray, List.map_cons, List.map_nil]); first | done | rfl | (simp only [List.length_drop, List.length_take]; rfl)) ?_
                 with_reducible refine (laws_toRing.calls a1_0 a1_1 a1_2 a1_3 a1_4 a1_5 t219 t220 t221 t222 t223 t224 _ A11.out).mono ?_
                 rintro e w33 ⟨rfl, hb⟩
                 refine ⟨_, rfl, ?_⟩
                 replace HO218 := zsb HO218 hb
                 replace BK213 := zb0 BK213 hb
                 replace BK214 := zb0 BK214 hb
                 replace BK234 := zb0 BK234 hb
                 replace HB := zhs HB hb
                 (try clear hb)
                 (try clear hb2)
                 (try clear hk)
                 (try clear hi)
                 refine hK.out _ _ ⟨zc0 BK213 0 rfl, zc0 BK214 0 rfl, zc0 BK214 1 rfl, zc0 BK214 2 rfl, zc0 BK214 3 rfl, zc0 BK214 4 rfl, zc0 BK214 5 rfl⟩ (fun hHeld => ?_)
                 clear hK K
                 refine norm_ (a' := ?_) ?_ ?_
                 rotate_left
                 ·show Act.put _ (some 22) _ = _
                  simp only [Act.put, zp1, zp2, zp3, i64_w, i32_w]
                  rfl
                 exact norm_ (by simp only [putAll, Act.put, zp1, zp2, zp3]; first | done | rfl) (hJ1_3_9 (v217, gb234) _ ⟨hHeld, (zs0 HO218), (zk0 BK213), (zk0 BK214), (zk0 BK234), GW234.out, GE234.out, NB213_234.out, NB234_213.out, NB214_234.out, NB234_214.out, (zh0 HB)⟩)
                ·skip
                 refine box_step ?hg (N := 7) ?hd (cs := #[.int .i64 0, .int .i64 0, .int .i64 0, .int .i64 0]) (t := 34) ?hr ?_; (case hd => rfl); (case hg => rfl); (case hr => first | (go_simp; done) | (go_simp; rfl))
                 intro gb235 hg w33 hbox hb
                 have BK235 := Aside0.mk (hbox)
                 have GW235 := zge HB hg
                 have GE235 := zge HB hg
                 have NB213_235 := znl BK213 hg
                 have NB235_213 := znr BK213 hg
                 have NB214_235 := znl BK214 hg
                 have NB235_214 := znr BK214 hg
                 have NB234_235 := znl BK234 hg
                 have NB235_234 := znr BK234 hg
                 replace HO218 := zsb HO218 hb
                 replace BK213 := zb0 BK213 hb
                 replace BK214 := zb0 BK214 hb
                 replace BK234 := zb0 BK234 hb
                 replace HB := zhs HB hb
                 clear hb hbox hg
                 refine hK.out _ _ ⟨zc0 BK213 0 rfl, zc0 BK214 0 rfl, zc0 BK214 1 rfl, zc0 BK214 2 rfl, zc0 BK214 3 rfl, zc0 BK214 4 rfl, zc0 BK214 5 rfl⟩ (fun hHeld => ?_)
                 clear hK K
                 refine norm_ (a' := ?_) ?_ ?_
                 rotate_left
                 ·show Act.put _ (some 7) _ = _
                  simp only [Act.put, zp1, zp2, zp3, i64_w, i32_w]
                  rfl
                 exact norm_ (by simp only [putAll, Act.put, zp1, zp2, zp3]; first | done | rfl) (hJ1_9_10 (v217, gb234, gb235) _ ⟨hHeld, (zs0 HO218), (zk0 BK213), (zk0 BK214), (zk0 BK234), (zk0 BK235), GW234.out, GE234.out, NB213_234.out, NB234_213.out, NB214_234.out, NB234_214.out, NB235_234.out, NB234_235.out, GW235.out, GE235.out, NB213_235.out, NB235_213.out, NB214_235.out, NB235_214.out, (zh0 HB)⟩)
              ·skip
               rintro v217 w32 ⟨hS_, h0_, h1_, h2_, h3_⟩
               try dsimp only at hS_ h0_ h1_ h2_ h3_
               have HO218 := Aside0.mk h0_
               replace BK213 := Aside0.mk h1_
               replace BK214 := Aside0.mk h2_
               replace HB := Aside0.mk h3_
               clear h0_ h1_ h2_ h3_
               have hHeld := hS_
               obtain ⟨Ao33, co33, eo33⟩ := Kd.S_slice HO218.out
               (first | subst eo33 | (injection eo33 with f1_ f2_ f3_; have f4_ := f1_.symm; have f5_ := f3_.symm; clear f1_ f2_ f3_; subst f4_; subst f5_))
               refine norm_ (a' := ?_) ?_ ?_
               rotate_left
               ·simp only [putAll, Act.put, zp1, zp2, zp3]
                rfl
               refine three_ (i := 4) (j := 9) (k := 10) (Ni := some 23) (Nj := some 6) (Nk := some 7) #[true, true, true, true, true, false, false, false, false, false, false, false, false, false] #[true, true, true, true, false, false, false, false, false, true, false, false, false, false] #[true, true, true, true, false, false, false, false, false, false, true, false, false, false] rfl rfl rfl rfl rfl rfl (three_of HT_.out (by kernel_rfl)) (by decide) (by decide) (by decide) (fun K hK => ?_) (fun K hK => ?_) (fun K hK => ?_)
               ·skip
                refine goes_ Try.func33 (by kernel_rfl) rfl #[.agg #[.slice Ao33 t216.length co33], .agg #[.int .i64 t219, .int .i64 t220, .int .i64 t221, .int .i64 t222, .int .i64 t223, .int .i64 t224]] (by rfl) rfl rfl (by (try simp only [List.map_toArray, List.map_cons, List.map_nil]); first | done | rfl | (simp only [List.length_drop, List.length_take]; rfl)) ?_
                with_reducible refine (spec_RingParts.calls k _ _ t216 t219 t220 t221 t222 t223 t224 t225 t226 t227 t228 t229 t230 t231 t232 t233 _ ?side1 ?side2 A12.out).mono ?_
                (case side1 => repeat (first | exact (Kd.S_reads' HO218.out).2.2 | (with_reducible refine Kd.C_alloc ?_ _) | (with_reducible refine Kd.C_drewN ?_ _) | (with_reducible refine Kd.C_drew ?_)))
                (case side2 => exact (Kd.S_reads' HO218.out).2.1)
                rintro e w34 ⟨rfl, hb⟩
                refine ⟨_, rfl, ?_⟩
                replace HO218 := zsb HO218 hb
                replace BK213 := zb0 BK213 hb
                replace BK214 := zb0 BK214 hb
                replace HB := zhs HB hb
                (try clear hb)
                (try clear hb2)
                (try clear hk)
                (try clear hi)
                refine hK.out _ _ ⟨zc0 BK213 0 rfl, zc0 BK214 0 rfl, zc0 BK214 1 rfl, zc0 BK214 2 rfl, zc0 BK214 3 rfl, zc0 BK214 4 rfl, zc0 BK214 5 rfl⟩ (fun hHeld => ?_)
                clear hK K
                refine norm_ (a' := ?_) ?_ ?_
                rotate_left
                ·show Act.put _ (some 23) _ = _
                 simp only [Act.put, zp1, zp2, zp3, i64_w, i32_w]
                 rfl
                refine pure_ (i := 5) (N := some 18) (v := ?_) (a' := ?_) #[true, true, true, true, true, true, false, false, false, false, false, false, false, false] rfl rfl (any_of HT_.out (by kernel_rfl)) (fun _ _ _ h => h) (Or.inl ⟨by rfl, ?_⟩) ?_ ?_
                rotate_left
                ·intro w'
                 go_simp
                 with_reducible rfl
                rotate_left
                ·simp only [Act.put, zp1, zp2, zp3, i64_w, i32_w]
                 rfl
                refine pure_ (i := 6) (N := some 24) (v := ?_) (a' := ?_) #[true, true, true, true, true, true, true, false, false, false, false, false, false, false] rfl rfl (any_of HT_.out (by kernel_rfl)) (fun _ _ _ h => h) (Or.inl ⟨by rfl, ?_⟩) ?_ ?_
                rotate_left
                ·intro w'
                 go_simp
                 with_reducible rfl
                rotate_left
                ·simp only [Act.put, zp1, zp2, zp3, i64_w, i32_w]
                 rfl
                refine pure_ (i := 7) (N := some 25) (v := ?_) (a' := ?_) #[true, true, true, true, true, true, true, true, false, false, false, false, false, false] rfl rfl (any_of HT_.out (by kernel_rfl)) (fun _ _ _ h => h) (Or.inl ⟨by rfl, ?_⟩) ?_ ?_
                rotate_left
                ·intro w'
                 go_simp
                 with_reducible rfl
                rotate_left
                ·simp only [Act.put, zp1, zp2, zp3, i64_w, i32_w]
                 rfl
                refine pure_ (i := 8) (N := some 26) (v := ?_) (a' := ?_) #[true, true, true, true, true, true, true, true, true, false, false, false, false, false] rfl rfl (any_of HT_.out (by kernel_rfl)) (fun _ _ _ h => h) (Or.inl ⟨by rfl, ?_⟩) ?_ ?_
                rotate_left
                ·intro w'
                 go_simp
                 with_reducible rfl
                rotate_left
                ·simp only [Act.put, zp1, zp2, zp3, i64_w, i32_w]
                 rfl
                exact norm_ (by simp only [putAll, Act.put, zp1, zp2, zp3]; first | done | rfl) (hJ1_3_4 (.slice Ao33 t216.length co33) _ ⟨hHeld, (zs0 HO218), (zk0 BK213), (zk0 BK214), (zh0 HB)⟩)
               ·skip
                refine box_step ?hg (N := 6) ?hd (cs := #[.int .i64 0, .int .i64 0, .int .i64 0, .int .i64 0]) (t := 34) ?hr ?_; (case hd => rfl); (case hg => rfl); (case hr => first | (go_simp; done) | (go_simp; rfl))
                intro gb234 hg w33 hbox hb
                have BK234 := Aside0.mk (hbox)
                have GW234 := zge HB hg
                have GE234 := zge HB hg
                have NB213_234 := znl BK213 hg
                have NB234_213 := znr BK213 hg
                have NB214_234 := znl BK214 hg
                have NB234_214 := znr BK214 hg
                replace HO218 := zsb HO218 hb
                replace BK213 := zb0 BK213 hb
                replace BK214 := zb0 BK214 hb
                replace HB := zhs HB hb
                clear hb hbox hg
                refine hK.out _ _ ⟨zc0 BK213 0 rfl, zc0 BK214 0 rfl, zc0 BK214 1 rfl, zc0 BK214 2 rfl, zc0 BK214 3 rfl, zc0 BK214 4 rfl, zc0 BK214 5 rfl⟩ (fun hHeld => ?_)
                clear hK K
                refine norm_ (a' := ?_) ?_ ?_
                rotate_left
                ·show Act.put _ (some 6) _ = _
                 simp only [Act.put, zp1, zp2, zp3, i64_w, i32_w]
                 rfl
                exact norm_ (by simp only [putAll, Act.put, zp1, zp2, zp3]; first | done | rfl) (hJ1_3_9 ((.slice Ao33 t216.length co33), gb234) _ ⟨hHeld, (zs0 HO218), (zk0 BK213), (zk0 BK214), (zk0 BK234), GW234.out, GE234.out, NB213_234.out, NB234_213.out, NB214_234.out, NB234_214.out, (zh0 HB)⟩)
               ·skip
                refine box_step ?hg (N := 7) ?hd (cs := #[.int .i64 0, .int .i64 0, .int .i64 0, .int .i64 0]) (t := 34) ?hr ?_; (case hd => rfl); (case hg => rfl); (case hr => first | (go_simp; done) | (go_simp; rfl))
                intro gb235 hg w33 hbox hb
                have BK235 := Aside0.mk (hbox)
                have GW235 := zge HB hg
                have GE235 := zge HB hg
                have NB213_235 := znl BK213 hg
                have NB235_213 := znr BK213 hg
                have NB214_235 := znl BK214 hg
                have NB235_214 := znr BK214 hg
                replace HO218 := zsb HO218 hb
                replace BK213 := zb0 BK213 hb
                replace BK214 := zb0 BK214 hb
                replace HB := zhs HB hb
                clear hb hbox hg
                refine hK.out _ _ ⟨zc0 BK213 0 rfl, zc0 BK214 0 rfl, zc0 BK214 1 rfl, zc0 BK214 2 rfl, zc0 BK214 3 rfl, zc0 BK214 4 rfl, zc0 BK214 5 rfl⟩ (fun hHeld => ?_)
                clear hK K
                refine norm_ (a' := ?_) ?_ ?_
                rotate_left
                ·show Act.put _ (some 7) _ = _
                 simp only [Act.put, zp1, zp2, zp3, i64_w, i32_w]
                 rfl
                exact norm_ (by simp only [putAll, Act.put, zp1, zp2, zp3]; first | done | rfl) (hJ1_3_10 ((.slice Ao33 t216.length co33), gb235) _ ⟨hHeld, (zs0 HO218), (zk0 BK213), (zk0 BK214), (zk0 BK235), GW235.out, GE235.out, NB213_235.out, NB235_213.out, NB214_235.out, NB235_214.out, (zh0 HB)⟩)
             ·skip
              rintro ⟨v217, gb234, gb235⟩ w33 ⟨hS_, h0_, h1_, h2_, h3_, h4_, h5_, h6_, h7_, h8_, h9_, h10_, h11_, h12_, h13_, h14_, h15_, h16_, h17_, h18_, h19_⟩
              try dsimp only at hS_ h0_ h1_ h2_ h3_ h4_ h5_ h6_ h7_ h8_ h9_ h10_ h11_ h12_ h13_ h14_ h15_ h16_ h17_ h18_ h19_
              have HO218 := Aside0.mk h0_
              have BK234 := Aside0.mk h3_
              have BK235 := Aside0.mk h4_
              have GW234 := Aside0.mk h5_
              have GE234 := Aside0.mk h6_
              have NB213_234 := Aside0.mk h7_
              have NB234_213 := Aside0.mk h8_
              have NB214_234 := Aside0.mk h9_
              have NB234_214 := Aside0.mk h10_
              have NB235_234 := Aside0.mk h11_
              have NB234_235 := Aside0.mk h12_
              have GW235 := Aside0.mk h13_
              have GE235 := Aside0.mk h14_
              have NB213_235 := Aside0.mk h15_
              have NB235_213 := Aside0.mk h16_
              have NB214_235 := Aside0.mk h17_
              have NB235_214 := Aside0.mk h18_
              replace BK213 := Aside0.mk h1_
              replace BK214 := Aside0.mk h2_
              replace HB := Aside0.mk h19_
              clear h0_ h1_ h2_ h3_ h4_ h5_ h6_ h7_ h8_ h9_ h10_ h11_ h12_ h13_ h14_ h15_ h16_ h17_ h18_ h19_
              have hHeld := hS_
              refine norm_ (a' := ?_) ?_ ?_
              rotate_left
              ·simp only [putAll, Act.put, zp1, zp2, zp3]
               rfl
              refine one_ (i := 3) (N := some 22) #[true, true, true, true, false, false, false, false, false, true, true, false, false, false] rfl rfl (one_of HT_.out (by kernel_rfl)) (by decide) (fun K hK => ?_)
              refine goes_ Try.func17 (by kernel_rfl) rfl #[.agg #[.int .i64 a1_0, .int .i64 a1_1, .int .i64 a1_2, .int .i64 a1_3, .int .i64 a1_4, .int .i64 a1_5]] (by rfl) rfl rfl (by (try simp only [List.map_toArray, List.map_cons, List.map_nil]); first | done | rfl | (simp only [List.length_drop, List.length_take]; rfl)) ?_
              with_reducible refine (laws_toRing.calls a1_0 a1_1 a1_2 a1_3 a1_4 a1_5 t219 t220 t221 t222 t223 t224 _ A11.out).mono ?_
              rintro e w34 ⟨rfl, hb⟩
              refine ⟨_, rfl, ?_⟩
              replace HO218 := zsb HO218 hb
              replace BK213 := zb0 BK213 hb
              replace BK214 := zb0 BK214 hb
              replace BK234 := zb0 BK234 hb
              replace BK235 := zb0 BK235 hb
              replace HB := zhs HB hb
              (try clear hb)
              (try clear hb2)
              (try clear hk)
              (try clear hi)
              refine hK.out _ _ ⟨zc0 BK213 0 rfl, zc0 BK214 0 rfl, zc0 BK214 1 rfl, zc0 BK214 2 rfl, zc0 BK214 3 rfl, zc0 BK214 4 rfl, zc0 BK214 5 rfl⟩ (fun hHeld => ?_)
              clear hK K
              refine norm_ (a' := ?_) ?_ ?_
              rotate_left
              ·show Act.put _ (some 22) _ = _
               simp only [Act.put, zp1, zp2, zp3, i64_w, i32_w]
               rfl
              exact norm_ (by simp only [putAll, Act.put, zp1, zp2, zp3]; first | done | rfl) (hJ1_3_9_10 (v217, gb234, gb235) _ ⟨hHeld, (zs0 HO218), (zk0 BK213), (zk0 BK214), (zk0 BK234), (zk0 BK235), GW234.out, GE234.out, NB213_234.out, NB234_213.out, NB214_234.out, NB234_214.out, NB235_234.out, NB234_235.out, GW235.out, GE235.out, NB213_235.out, NB235_213.out, NB214_235.out, NB235_214.out, (zh0 HB)⟩)
            ·skip
             rintro ⟨v217, gb235⟩ w33 ⟨hS_, h0_, h1_, h2_, h3_, h4_, h5_, h6_, h7_, h8_, h9_, h10_⟩
             try dsimp only at hS_ h0_ h1_ h2_ h3_ h4_ h5_ h6_ h7_ h8_ h9_ h10_
             have HO218 := Aside0.mk h0_
             have BK235 := Aside0.mk h3_
             have GW235 := Aside0.mk h4_
             have GE235 := Aside0.mk h5_
             have NB213_235 := Aside0.mk h6_
             have NB235_213 := Aside0.mk h7_
             have NB214_235 := Aside0.mk h8_
             have NB235_214 := Aside0.mk h9_
             replace BK213 := Aside0.mk h1_
             replace BK214 := Aside0.mk h2_
             replace HB := Aside0.mk h10_
             clear h0_ h1_ h2_ h3_ h4_ h5_ h6_ h7_ h8_ h9_ h10_
             have hHeld := hS_
             obtain ⟨Ao34, co34, eo34⟩ := Kd.S_slice HO218.out
             (first | subst eo34 | (injection eo34 with f1_ f2_ f3_; have f4_ := f1_.symm; have f5_ := f3_.symm; clear f1_ f2_ f3_; subst f4_; subst f5_))
             refine norm_ (a' := ?_) ?_ ?_
             rotate_left
             ·simp only [putAll, Act.put, zp1, zp2, zp3]
              rfl
             refine two_ (i := 4) (j := 9) (Ni := some 23) (Nj := some 6) #[true, true, true, true, true, false, false, false, false, false, true, false, false, false] #[true, true, true, true, false, false, false, false, false, true, true, false, false, false] rfl rfl rfl rfl (two_of HT_.out (by kernel_rfl)) (by decide) (by decide) (fun K hK => ?_) (fun K hK => ?_)
             ·skip
              refine goes_ Try.func33 (by kernel_rfl) rfl #[.agg #[.slice Ao34 t216.length co34], .agg #[.int .i64 t219, .int .i64 t220, .int .i64 t221, .int .i64 t222, .int .i64 t223, .int .i64 t224]] (by rfl) rfl rfl (by (try simp only [List.map_toArray, List.map_cons, List.map_nil]); first | done | rfl | (simp only [List.length_drop, List.length_take]; rfl)) ?_
              with_reducible refine (spec_RingParts.calls k _ _ t216 t219 t220 t221 t222 t223 t224 t225 t226 t227 t228 t229 t230 t231 t232 t233 _ ?side1 ?side2 A12.out).mono ?_
              (case side1 => repeat (first | exact (Kd.S_reads' HO218.out).2.2 | (with_reducible refine Kd.C_alloc ?_ _) | (with_reducible refine Kd.C_drewN ?_ _) | (with_reducible refine Kd.C_drew ?_)))
              (case side2 => exact (Kd.S_reads' HO218.out).2.1)
              rintro e w35 ⟨rfl, hb⟩
              refine ⟨_, rfl, ?_⟩
              replace HO218 := zsb HO218 hb
              replace BK213 := zb0 BK213 hb
              replace BK214 := zb0 BK214 hb
              replace BK235 := zb0 BK235 hb
              replace HB := zhs HB hb
              (try clear hb)
              (try clear hb2)
              (try clear hk)
              (try clear hi)
              refine hK.out _ _ ⟨zc0 BK213 0 rfl, zc0 BK214 0 rfl, zc0 BK214 1 rfl, zc0 BK214 2 rfl, zc0 BK214 3 rfl, zc0 BK214 4 rfl, zc0 BK214 5 rfl⟩ (fun hHeld => ?_)
              clear hK K
              refine norm_ (a' := ?_) ?_ ?_
              rotate_left
              ·show Act.put _ (some 23) _ = _
               simp only [Act.put, zp1, zp2, zp3, i64_w, i32_w]
               rfl
              refine pure_ (i := 5) (N := some 18) (v := ?_) (a' := ?_) #[true, true, true, true, true, true, false, false, false, false, true, false, false, false] rfl rfl (any_of HT_.out (by kernel_rfl)) (fun _ _ _ h => h) (Or.inl ⟨by rfl, ?_⟩) ?_ ?_
              rotate_left
              ·intro w'
               go_simp
               with_reducible rfl
              rotate_left
              ·simp only [Act.put, zp1, zp2, zp3, i64_w, i32_w]
               rfl
              refine pure_ (i := 6) (N := some 24) (v := ?_) (a' := ?_) #[true, true, true, true, true, true, true, false, false, false, true, false, false, false] rfl rfl (any_of HT_.out (by kernel_rfl)) (fun _ _ _ h => h) (Or.inl ⟨by rfl, ?_⟩) ?_ ?_
              rotate_left
              ·intro w'
               go_simp
               with_reducible rfl
              rotate_left
              ·simp only [Act.put, zp1, zp2, zp3, i64_w, i32_w]
               rfl
              refine pure_ (i := 7) (N := some 25) (v := ?_) (a' := ?_) #[true, true, true, true, true, true, true, true, false, false, true, false, false, false] rfl rfl (any_of HT_.out (by kernel_rfl)) (fun _ _ _ h => h) (Or.inl ⟨by rfl, ?_⟩) ?_ ?_
              rotate_left
              ·intro w'
               go_simp
               with_reducible rfl
              rotate_left
              ·simp only [Act.put, zp1, zp2, zp3, i64_w, i32_w]
               rfl
              refine pure_ (i := 8) (N := some 26) (v := ?_) (a' := ?_) #[true, true, true, true, true, true, true, true, true, false, true, false, false, false] rfl rfl (any_of HT_.out (by kernel_rfl)) (fun _ _ _ h => h) (Or.inl ⟨by rfl, ?_⟩) ?_ ?_
              rotate_left
              ·intro w'
               go_simp
               with_reducible rfl
              rotate_left
              ·simp only [Act.put, zp1, zp2, zp3, i64_w, i32_w]
               rfl
              exact norm_ (by simp only [putAll, Act.put, zp1, zp2, zp3]; first | done | rfl) (hJ1_3_4_10 (.slice Ao34 t216.length co34, gb235) _ ⟨hHeld, (zs0 HO218), (zk0 BK213), (zk0 BK214), (zk0 BK235), GW235.out, GE235.out, NB213_235.out, NB235_213.out, NB214_235.out, NB235_214.out, (zh0 HB)⟩)
             ·skip
              refine box_step ?hg (N := 6) ?hd (cs := #[.int .i64 0, .int .i64 0, .int .i64 0, .int .i64 0]) (t := 34) ?hr ?_; (case hd => rfl); (case hg => rfl); (case hr => first | (go_simp; done) | (go_simp; rfl))
              intro gb234 hg w34 hbox hb
              have BK234 := Aside0.mk (hbox)
              have GW234 := zge HB hg
              have GE234 := zge HB hg
              have NB213_234 := znl BK213 hg
              have NB234_213 := znr BK213 hg
              have NB214_234 := znl BK214 hg
              have NB234_214 := znr BK214 hg
              have NB235_234 := znl BK235 hg
              have NB234_235 := znr BK235 hg
              replace HO218 := zsb HO218 hb
              replace BK213 := zb0 BK213 hb
              replace BK214 := zb0 BK214 hb
              replace BK235 := zb0 BK235 hb
              replace HB := zhs HB hb
              clear hb hbox hg
              refine hK.out _ _ ⟨zc0 BK213 0 rfl, zc0 BK214 0 rfl, zc0 BK214 1 rfl, zc0 BK214 2 rfl, zc0 BK214 3 rfl, zc0 BK214 4 rfl, zc0 BK214 5 rfl⟩ (fun hHeld => ?_)
              clear hK K
              refine norm_ (a' := ?_) ?_ ?_
              rotate_left
              ·show Act.put _ (some 6) _ = _
               simp only [Act.put, zp1, zp2, zp3, i64_w, i32_w]
               rfl
              exact norm_ (by simp only [putAll, Act.put, zp1, zp2, zp3]; first | done | rfl) (hJ1_3_9_10 ((.slice Ao34 t216.length co34), gb234, gb235) _ ⟨hHeld, (zs0 HO218), (zk0 BK213), (zk0 BK214), (zk0 BK234), (zk0 BK235), GW234.out, GE234.out, NB213_234.out, NB234_213.out, NB214_234.out, NB234_214.out, NB235_234.out, NB234_235.out, GW235.out, GE235.out, NB213_235.out, NB235_213.out, NB214_235.out, NB235_214.out, (zh0 HB)⟩)
           ·skip
            rintro ⟨v217, gb234⟩ w33 ⟨hS_, h0_, h1_, h2_, h3_, h4_, h5_, h6_, h7_, h8_, h9_, h10_⟩
            try dsimp only at hS_ h0_ h1_ h2_ h3_ h4_ h5_ h6_ h7_ h8_ h9_ h10_
            have HO218 := Aside0.mk h0_
            have BK234 := Aside0.mk h3_
            have GW234 := Aside0.mk h4_
            have GE234 := Aside0.mk h5_
            have NB213_234 := Aside0.mk h6_
            have NB234_213 := Aside0.mk h7_
            have NB214_234 := Aside0.mk h8_
            have NB234_214 := Aside0.mk h9_
            replace BK213 := Aside0.mk h1_
            replace BK214 := Aside0.mk h2_
            replace HB := Aside0.mk h10_
            clear h0_ h1_ h2_ h3_ h4_ h5_ h6_ h7_ h8_ h9_ h10_
            have hHeld := hS_
            obtain ⟨Ao34, co34, eo34⟩ := Kd.S_slice HO218.out
            (first | subst eo34 | (injection eo34 with f1_ f2_ f3_; have f4_ := f1_.symm; have f5_ := f3_.symm; clear f1_ f2_ f3_; subst f4_; subst f5_))
            refine norm_ (a' := ?_) ?_ ?_
            rotate_left
            ·simp only [putAll, Act.put, zp1, zp2, zp3]
             rfl
            refine two_ (i := 4) (j := 10) (Ni := some 23) (Nj := some 7) #[true, true, true, true, true, false, false, false, false, true, false, false, false, false] #[true, true, true, true, false, false, false, false, false, true, true, false, false, false] rfl rfl rfl rfl (two_of HT_.out (by kernel_rfl)) (by decide) (by decide) (fun K hK => ?_) (fun K hK => ?_)
            ·skip
             refine goes_ Try.func33 (by kernel_rfl) rfl #[.agg #[.slice Ao34 t216.length co34], .agg #[.int .i64 t219, .int .i64 t220, .int .i64 t221, .int .i64 t222, .int .i64 t223, .int .i64 t224]] (by rfl) rfl rfl (by (try simp only [List.map_toArray, List.map_cons, List.map_nil]); first | done | rfl | (simp only [List.length_drop, List.length_take]; rfl)) ?_
             with_reducible refine (spec_RingParts.calls k _ _ t216 t219 t220 t221 t222 t223 t224 t225 t226 t227 t228 t229 t230 t231 t232 t233 _ ?side1 ?side2 A12.out).mono ?_
             (case side1 => repeat (first | exact (Kd.S_reads' HO218.out).2.2 | (with_reducible refine Kd.C_alloc ?_ _) | (with_reducible refine Kd.C_drewN ?_ _) | (with_reducible refine Kd.C_drew ?_)))
             (case side2 => exact (Kd.S_reads' HO218.out).2.1)
             rintro e w35 ⟨rfl, hb⟩
             refine ⟨_, rfl, ?_⟩
             replace HO218 := zsb HO218 hb
             replace BK213 := zb0 BK213 hb
             replace BK214 := zb0 BK214 hb
             replace BK234 := zb0 BK234 hb
             replace HB := zhs HB hb
             (try clear hb)
             (try clear hb2)
             (try clear hk)
             (try clear hi)
             refine hK.out _ _ ⟨zc0 BK213 0 rfl, zc0 BK214 0 rfl, zc0 BK214 1 rfl, zc0 BK214 2 rfl, zc0 BK214 3 rfl, zc0 BK214 4 rfl, zc0 BK214 5 rfl⟩ (fun hHeld => ?_)
             clear hK K
             refine norm_ (a' := ?_) ?_ ?_
             rotate_left
             ·show Act.put _ (some 23) _ = _
              simp only [Act.put, zp1, zp2, zp3, i64_w, i32_w]
              rfl
             refine pure_ (i := 5) (N := some 18) (v := ?_) (a' := ?_) #[true, true, true, true, true, true, false, false, false, true, false, false, false, false] rfl rfl (any_of HT_.out (by kernel_rfl)) (fun _ _ _ h => h) (Or.inl ⟨by rfl, ?_⟩) ?_ ?_
             rotate_left
             ·intro w'
              go_simp
              with_reducible rfl
             rotate_left
             ·simp only [Act.put, zp1, zp2, zp3, i64_w, i32_w]
              rfl
             refine pure_ (i := 6) (N := some 24) (v := ?_) (a' := ?_) #[true, true, true, true, true, true, true, false, false, true, false, false, false, false] rfl rfl (any_of HT_.out (by kernel_rfl)) (fun _ _ _ h => h) (Or.inl ⟨by rfl, ?_⟩) ?_ ?_
             rotate_left
             ·intro w'
              go_simp
              with_reducible rfl
             rotate_left
             ·simp only [Act.put, zp1, zp2, zp3, i64_w, i32_w]
              rfl
             refine pure_ (i := 7) (N := some 25) (v := ?_) (a' := ?_) #[true, true, true, true, true, true, true, true, false, true, false, false, false, false] rfl rfl (any_of HT_.out (by kernel_rfl)) (fun _ _ _ h => h) (Or.inl ⟨by rfl, ?_⟩) ?_ ?_
             rotate_left
             ·intro w'
              go_simp
              with_reducible rfl
             rotate_left
             ·simp only [Act.put, zp1, zp2, zp3, i64_w, i32_w]
              rfl
             refine pure_ (i := 8) (N := some 26) (v := ?_) (a' := ?_) #[true, true, true, true, true, true, true, true, true, true, false, false, false, false] rfl rfl (any_of HT_.out (by kernel_rfl)) (fun _ _ _ h => h) (Or.inl ⟨by rfl, ?_⟩) ?_ ?_
             rotate_left
             ·intro w'
              go_simp
              with_reducible rfl
             rotate_left
             ·simp only [Act.put, zp1, zp2, zp3, i64_w, i32_w]
              rfl
             exact norm_ (by simp only [putAll, Act.put, zp1, zp2, zp3]; first | done | rfl) (hJ1_3_4_9 (.slice Ao34 t216.length co34, gb234) _ ⟨hHeld, (zs0 HO218), (zk0 BK213), (zk0 BK214), (zk0 BK234), GW234.out, GE234.out, NB213_234.out, NB234_213.out, NB214_234.out, NB234_214.out, (zh0 HB)⟩)
            ·skip
             refine box_step ?hg (N := 7) ?hd (cs := #[.int .i64 0, .int .i64 0, .int .i64 0, .int .i64 0]) (t := 34) ?hr ?_; (case hd => rfl); (case hg => rfl); (case hr => first | (go_simp; done) | (go_simp; rfl))
             intro gb235 hg w34 hbox hb
             have BK235 := Aside0.mk (hbox)
             have GW235 := zge HB hg
             have GE235 := zge HB hg
             have NB213_235 := znl BK213 hg
             have NB235_213 := znr BK213 hg
             have NB214_235 := znl BK214 hg
             have NB235_214 := znr BK214 hg
             have NB234_235 := znl BK234 hg
             have NB235_234 := znr BK234 hg
             replace HO218 := zsb HO218 hb
             replace BK213 := zb0 BK213 hb
             replace BK214 := zb0 BK214 hb
             replace BK234 := zb0 BK234 hb
             replace HB := zhs HB hb
             clear hb hbox hg
             refine hK.out _ _ ⟨zc0 BK213 0 rfl, zc0 BK214 0 rfl, zc0 BK214 1 rfl, zc0 BK214 2 rfl, zc0 BK214 3 rfl, zc0 BK214 4 rfl, zc0 BK214 5 rfl⟩ (fun hHeld => ?_)
             clear hK K
             refine norm_ (a' := ?_) ?_ ?_
             rotate_left
             ·show Act.put _ (some 7) _ = _
              simp only [Act.put, zp1, zp2, zp3, i64_w, i32_w]
              rfl
             exact norm_ (by simp only [putAll, Act.put, zp1, zp2, zp3]; first | done | rfl) (hJ1_3_9_10 ((.slice Ao34 t216.length co34), gb234, gb235) _ ⟨hHeld, (zs0 HO218), (zk0 BK213), (zk0 BK214), (zk0 BK234), (zk0 BK235), GW234.out, GE234.out, NB213_234.out, NB234_213.out, NB214_234.out, NB234_214.out, NB235_234.out, NB234_235.out, GW235.out, GE235.out, NB213_235.out, NB235_213.out, NB214_235.out, NB235_214.out, (zh0 HB)⟩)
          ·skip
           rintro v217 w34 ⟨hS_, h0_, h1_, h2_, h3_⟩
           try dsimp only at hS_ h0_ h1_ h2_ h3_
           have HO218 := Aside0.mk h0_
           replace BK213 := Aside0.mk h1_
           replace BK214 := Aside0.mk h2_
           replace HB := Aside0.mk h3_
           clear h0_ h1_ h2_ h3_
           have hHeld := hS_
           refine norm_ (a' := ?_) ?_ ?_
           rotate_left
           ·simp only [putAll, Act.put, zp1, zp2, zp3]
            rfl
           refine two_ (i := 9) (j := 10) (Ni := some 6) (Nj := some 7) #[true, true, true, true, true, true, true, true, true, true, false, false, false, false] #[true, true, true, true, true, true, true, true, true, false, true, false, false, false] rfl rfl rfl rfl (two_of HT_.out (by kernel_rfl)) (by decide) (by decide) (fun K hK => ?_) (fun K hK => ?_)
           ·skip
            refine box_step ?hg (N := 6) ?hd (cs := #[.int .i64 0, .int .i64 0, .int .i64 0, .int .i64 0]) (t := 34) ?hr ?_; (case hd => rfl); (case hg => rfl); (case hr => first | (go_simp; done) | (go_simp; rfl))
            intro gb234 hg w35 hbox hb
            have BK234 := Aside0.mk (hbox)
            have GW234 := zge HB hg
            have GE234 := zge HB hg
            have NB213_234 := znl BK213 hg
            have NB234_213 := znr BK213 hg
            have NB214_234 := znl BK214 hg
            have NB234_214 := znr BK214 hg
            replace HO218 := zsb HO218 hb
            replace BK213 := zb0 BK213 hb
            replace BK214 := zb0 BK214 hb
            replace HB := zhs HB hb
            clear hb hbox hg
            refine hK.out _ _ ⟨zc0 BK213 0 rfl, zc0 BK214 0 rfl, zc0 BK214 1 rfl, zc0 BK214 2 rfl, zc0 BK214 3 rfl, zc0 BK214 4 rfl, zc0 BK214 5 rfl⟩ (fun hHeld => ?_)
            clear hK K
            refine norm_ (a' := ?_) ?_ ?_
            rotate_left
            ·show Act.put _ (some 6) _ = _
             simp only [Act.put, zp1, zp2, zp3, i64_w, i32_w]
             rfl
            exact norm_ (by simp only [putAll, Act.put, zp1, zp2, zp3]; first | done | rfl) (hJ1_3_4_9 (v217, gb234) _ ⟨hHeld, (zs0 HO218), (zk0 BK213), (zk0 BK214), (zk0 BK234), GW234.out, GE234.out, NB213_234.out, NB234_213.out, NB214_234.out, NB234_214.out, (zh0 HB)⟩)
           ·skip
            refine box_step ?hg (N := 7) ?hd (cs := #[.int .i64 0, .int .i64 0, .int .i64 0, .int .i64 0]) (t := 34) ?hr ?_; (case hd => rfl); (case hg => rfl); (case hr => first | (go_simp; done) | (go_simp; rfl))
            intro gb235 hg w35 hbox hb
            have BK235 := Aside0.mk (hbox)
            have GW235 := zge HB hg
            have GE235 := zge HB hg
            have NB213_235 := znl BK213 hg
            have NB235_213 := znr BK213 hg
            have NB214_235 := znl BK214 hg
            have NB235_214 := znr BK214 hg
            replace HO218 := zsb HO218 hb
            replace BK213 := zb0 BK213 hb
            replace BK214 := zb0 BK214 hb
            replace HB := zhs HB hb
            clear hb hbox hg
            refine hK.out _ _ ⟨zc0 BK213 0 rfl, zc0 BK214 0 rfl, zc0 BK214 1 rfl, zc0 BK214 2 rfl, zc0 BK214 3 rfl, zc0 BK214 4 rfl, zc0 BK214 5 rfl⟩ (fun hHeld => ?_)
            clear hK K
            refine norm_ (a' := ?_) ?_ ?_
            rotate_left
            ·show Act.put _ (some 7) _ = _
             simp only [Act.put, zp1, zp2, zp3, i64_w, i32_w]
             rfl
            exact norm_ (by simp only [putAll, Act.put, zp1, zp2, zp3]; first | done | rfl) (hJ1_3_4_10 (v217, gb235) _ ⟨hHeld, (zs0 HO218), (zk0 BK213), (zk0 BK214), (zk0 BK235), GW235.out, GE235.out, NB213_235.out, NB235_213.out, NB214_235.out, NB235_214.out, (zh0 HB)⟩)
         ·skip
          rintro ⟨v217, gb234, gb235⟩ w34 ⟨hS_, h0_, h1_, h2_, h3_, h4_, h5_, h6_, h7_, h8_, h9_, h10_, h11_, h12_, h13_, h14_, h15_, h16_, h17_, h18_, h19_⟩
          try dsimp only at hS_ h0_ h1_ h2_ h3_ h4_ h5_ h6_ h7_ h8_ h9_ h10_ h11_ h12_ h13_ h14_ h15_ h16_ h17_ h18_ h19_
          have HO218 := Aside0.mk h0_
          have BK234 := Aside0.mk h3_
          have BK235 := Aside0.mk h4_
          have GW234 := Aside0.mk h5_
          have GE234 := Aside0.mk h6_
          have NB213_234 := Aside0.mk h7_
          have NB234_213 := Aside0.mk h8_
          have NB214_234 := Aside0.mk h9_
          have NB234_214 := Aside0.mk h10_
          have NB235_234 := Aside0.mk h11_
          have NB234_235 := Aside0.mk h12_
          have GW235 := Aside0.mk h13_
          have GE235 := Aside0.mk h14_
          have NB213_235 := Aside0.mk h15_
          have NB235_213 := Aside0.mk h16_
          have NB214_235 := Aside0.mk h17_
          have NB235_214 := Aside0.mk h18_
          replace BK213 := Aside0.mk h1_
          replace BK214 := Aside0.mk h2_
          replace HB := Aside0.mk h19_
          clear h0_ h1_ h2_ h3_ h4_ h5_ h6_ h7_ h8_ h9_ h10_ h11_ h12_ h13_ h14_ h15_ h16_ h17_ h18_ h19_
          have hHeld := hS_
          obtain ⟨Ao35, co35, eo35⟩ := Kd.S_slice HO218.out
          (first | subst eo35 | (injection eo35 with f1_ f2_ f3_; have f4_ := f1_.symm; have f5_ := f3_.symm; clear f1_ f2_ f3_; subst f4_; subst f5_))
          refine norm_ (a' := ?_) ?_ ?_
          rotate_left
          ·simp only [putAll, Act.put, zp1, zp2, zp3]
           rfl
          refine one_ (i := 4) (N := some 23) #[true, true, true, true, true, false, false, false, false, true, true, false, false, false] rfl rfl (one_of HT_.out (by kernel_rfl)) (by decide) (fun K hK => ?_)
          refine goes_ Try.func33 (by kernel_rfl) rfl #[.agg #[.slice Ao35 t216.length co35], .agg #[.int .i64 t219, .int .i64 t220, .int .i64 t221, .int .i64 t222, .int .i64 t223, .int .i64 t224]] (by rfl) rfl rfl (by (try simp only [List.map_toArray, List.map_cons, List.map_nil]); first | done | rfl | (simp only [List.length_drop, List.length_take]; rfl)) ?_
          with_reducible refine (spec_RingParts.calls k _ _ t216 t219 t220 t221 t222 t223 t224 t225 t226 t227 t228 t229 t230 t231 t232 t233 _ ?side1 ?side2 A12.out).mono ?_
          (case side1 => repeat (first | exact (Kd.S_reads' HO218.out).2.2 | (with_reducible refine Kd.C_alloc ?_ _) | (with_reducible refine Kd.C_drewN ?_ _) | (with_reducible refine Kd.C_drew ?_)))
          (case side2 => exact (Kd.S_reads' HO218.out).2.1)
          rintro e w36 ⟨rfl, hb⟩
          refine ⟨_, rfl, ?_⟩
          replace HO218 := zsb HO218 hb
          replace BK213 := zb0 BK213 hb
          replace BK214 := zb0 BK214 hb
          replace BK234 := zb0 BK234 hb
          replace BK235 := zb0 BK235 hb
          replace HB := zhs HB hb
          (try clear hb)
          (try clear hb2)
          (try clear hk)
          (try clear hi)
          refine hK.out _ _ ⟨zc0 BK213 0 rfl, zc0 BK214 0 rfl, zc0 BK214 1 rfl, zc0 BK214 2 rfl, zc0 BK214 3 rfl, zc0 BK214 4 rfl, zc0 BK214 5 rfl⟩ (fun hHeld => ?_)
          clear hK K
          refine norm_ (a' := ?_) ?_ ?_
          rotate_left
          ·show Act.put _ (some 23) _ = _
           simp only [Act.put, zp1, zp2, zp3, i64_w, i32_w]
           rfl
          refine pure_ (i := 5) (N := some 18) (v := ?_) (a' := ?_) #[true, true, true, true, true, true, false, false, false, true, true, false, false, false] rfl rfl (any_of HT_.out (by kernel_rfl)) (fun _ _ _ h => h) (Or.inl ⟨by rfl, ?_⟩) ?_ ?_
          rotate_left
          ·intro w'
           go_simp
           with_reducible rfl
          rotate_left
          ·simp only [Act.put, zp1, zp2, zp3, i64_w, i32_w]
           rfl
          refine pure_ (i := 6) (N := some 24) (v := ?_) (a' := ?_) #[true, true, true, true, true, true, true, false, false, true, true, false, false, false] rfl rfl (any_of HT_.out (by kernel_rfl)) (fun _ _ _ h => h) (Or.inl ⟨by rfl, ?_⟩) ?_ ?_
          rotate_left
          ·intro w'
           go_simp
           with_reducible rfl
          rotate_left
          ·simp only [Act.put, zp1, zp2, zp3, i64_w, i32_w]
           rfl
          refine pure_ (i := 7) (N := some 25) (v := ?_) (a' := ?_) #[true, true, true, true, true, true, true, true, false, true, true, false, false, false] rfl rfl (any_of HT_.out (by kernel_rfl)) (fun _ _ _ h => h) (Or.inl ⟨by rfl, ?_⟩) ?_ ?_
          rotate_left
          ·intro w'
           go_simp
           with_reducible rfl
          rotate_left
          ·simp only [Act.put, zp1, zp2, zp3, i64_w, i32_w]
           rfl
          refine pure_ (i := 8) (N := some 26) (v := ?_) (a' := ?_) #[true, true, true, true, true, true, true, true, true, true, true, false, false, false] rfl rfl (any_of HT_.out (by kernel_rfl)) (fun _ _ _ h => h) (Or.inl ⟨by rfl, ?_⟩) ?_ ?_
          rotate_left
          ·intro w'
           go_simp
           with_reducible rfl
          rotate_left
          ·simp only [Act.put, zp1, zp2, zp3, i64_w, i32_w]
           rfl
          exact norm_ (by simp only [putAll, Act.put, zp1, zp2, zp3]; first | done | rfl) (hJ1_3_4_9_10 (.slice Ao35 t216.length co35, gb234, gb235) _ ⟨hHeld, (zs0 HO218), (zk0 BK213), (zk0 BK214), (zk0 BK234), (zk0 BK235), GW234.out, GE234.out, NB213_234.out, NB234_213.out, NB214_234.out, NB234_214.out, NB235_234.out, NB234_235.out, GW235.out, GE235.out, NB213_235.out, NB235_213.out, NB214_235.out, NB235_214.out, (zh0 HB)⟩)
        ·skip
         rintro ⟨v217, gb235⟩ w35 ⟨hS_, h0_, h1_, h2_, h3_, h4_, h5_, h6_, h7_, h8_, h9_, h10_⟩
         try dsimp only at hS_ h0_ h1_ h2_ h3_ h4_ h5_ h6_ h7_ h8_ h9_ h10_
         have HO218 := Aside0.mk h0_
         have BK235 := Aside0.mk h3_
         have GW235 := Aside0.mk h4_
         have GE235 := Aside0.mk h5_
         have NB213_235 := Aside0.mk h6_
         have NB235_213 := Aside0.mk h7_
         have NB214_235 := Aside0.mk h8_
         have NB235_214 := Aside0.mk h9_
         replace BK213 := Aside0.mk h1_
         replace BK214 := Aside0.mk h2_
         replace HB := Aside0.mk h10_
         clear h0_ h1_ h2_ h3_ h4_ h5_ h6_ h7_ h8_ h9_ h10_
         have hHeld := hS_
         refine norm_ (a' := ?_) ?_ ?_
         rotate_left
         ·simp only [putAll, Act.put, zp1, zp2, zp3]
          rfl
         refine one_ (i := 9) (N := some 6) #[true, true, true, true, true, true, true, true, true, true, true, false, false, false] rfl rfl (one_of HT_.out (by kernel_rfl)) (by decide) (fun K hK => ?_)
         refine box_step ?hg (N := 6) ?hd (cs := #[.int .i64 0, .int .i64 0, .int .i64 0, .int .i64 0]) (t := 34) ?hr ?_; (case hd => rfl); (case hg => rfl); (case hr => first | (go_simp; done) | (go_simp; rfl))
         intro gb234 hg w36 hbox hb
         have BK234 := Aside0.mk (hbox)
         have GW234 := zge HB hg
         have GE234 := zge HB hg
         have NB213_234 := znl BK213 hg
         have NB234_213 := znr BK213 hg
         have NB214_234 := znl BK214 hg
         have NB234_214 := znr BK214 hg
         have NB235_234 := znl BK235 hg
         have NB234_235 := znr BK235 hg
         replace HO218 := zsb HO218 hb
         replace BK213 := zb0 BK213 hb
         replace BK214 := zb0 BK214 hb
         replace BK235 := zb0 BK235 hb
         replace HB := zhs HB hb
         clear hb hbox hg
         refine hK.out _ _ ⟨zc0 BK213 0 rfl, zc0 BK214 0 rfl, zc0 BK214 1 rfl, zc0 BK214 2 rfl, zc0 BK214 3 rfl, zc0 BK214 4 rfl, zc0 BK214 5 rfl⟩ (fun hHeld => ?_)
         clear hK K
         refine norm_ (a' := ?_) ?_ ?_
         rotate_left
         ·show Act.put _ (some 6) _ = _
          simp only [Act.put, zp1, zp2, zp3, i64_w, i32_w]
          rfl
         exact norm_ (by simp only [putAll, Act.put, zp1, zp2, zp3]; first | done | rfl) (hJ1_3_4_9_10 (v217, gb234, gb235) _ ⟨hHeld, (zs0 HO218), (zk0 BK213), (zk0 BK214), (zk0 BK234), (zk0 BK235), GW234.out, GE234.out, NB213_234.out, NB234_213.out, NB214_234.out, NB234_214.out, NB235_234.out, NB234_235.out, GW235.out, GE235.out, NB213_235.out, NB235_213.out, NB214_235.out, NB235_214.out, (zh0 HB)⟩)
       ·skip
        rintro ⟨v217, gb234⟩ w35 ⟨hS_, h0_, h1_, h2_, h3_, h4_, h5_, h6_, h7_, h8_, h9_, h10_⟩
        try dsimp only at hS_ h0_ h1_ h2_ h3_ h4_ h5_ h6_ h7_ h8_ h9_ h10_
        have HO218 := Aside0.mk h0_
        have BK234 := Aside0.mk h3_
        have GW234 := Aside0.mk h4_
        have GE234 := Aside0.mk h5_
        have NB213_234 := Aside0.mk h6_
        have NB234_213 := Aside0.mk h7_
        have NB214_234 := Aside0.mk h8_
        have NB234_214 := Aside0.mk h9_
        replace BK213 := Aside0.mk h1_
        replace BK214 := Aside0.mk h2_
        replace HB := Aside0.mk h10_
        clear h0_ h1_ h2_ h3_ h4_ h5_ h6_ h7_ h8_ h9_ h10_
        have hHeld := hS_
        refine norm_ (a' := ?_) ?_ ?_
        rotate_left
        ·simp only [putAll, Act.put, zp1, zp2, zp3]
         rfl
        refine one_ (i := 10) (N := some 7) #[true, true, true, true, true, true, true, true, true, true, true, false, false, false] rfl rfl (one_of HT_.out (by kernel_rfl)) (by decide) (fun K hK => ?_)
        refine box_step ?hg (N := 7) ?hd (cs := #[.int .i64 0, .int .i64 0, .int .i64 0, .int .i64 0]) (t := 34) ?hr ?_; (case hd => rfl); (case hg => rfl); (case hr => first | (go_simp; done) | (go_simp; rfl))
        intro gb235 hg w36 hbox hb
        have BK235 := Aside0.mk (hbox)
        have GW235 := zge HB hg
        have GE235 := zge HB hg
        have NB213_235 := znl BK213 hg
        have NB235_213 := znr BK213 hg
        have NB214_235 := znl BK214 hg
        have NB235_214 := znr BK214 hg
        have NB234_235 := znl BK234 hg
        have NB235_234 := znr BK234 hg
        replace HO218 := zsb HO218 hb
        replace BK213 := zb0 BK213 hb
        replace BK214 := zb0 BK214 hb
        replace BK234 := zb0 BK234 hb
        replace HB := zhs HB hb
        clear hb hbox hg
        refine hK.out _ _ ⟨zc0 BK213 0 rfl, zc0 BK214 0 rfl, zc0 BK214 1 rfl, zc0 BK214 2 rfl, zc0 BK214 3 rfl, zc0 BK214 4 rfl, zc0 BK214 5 rfl⟩ (fun hHeld => ?_)
        clear hK K
        refine norm_ (a' := ?_) ?_ ?_
        rotate_left
        ·show Act.put _ (some 7) _ = _
         simp only [Act.put, zp1, zp2, zp3, i64_w, i32_w]
         rfl
        exact norm_ (by simp only [putAll, Act.put, zp1, zp2, zp3]; first | done | rfl) (hJ1_3_4_9_10 (v217, gb234, gb235) _ ⟨hHeld, (zs0 HO218), (zk0 BK213), (zk0 BK214), (zk0 BK234), (zk0 BK235), GW234.out, GE234.out, NB213_234.out, NB234_213.out, NB214_234.out, NB234_214.out, NB235_234.out, NB234_235.out, GW235.out, GE235.out, NB213_235.out, NB235_213.out, NB214_235.out, NB235_214.out, (zh0 HB)⟩)
      rintro ⟨v217, gb234, gb235⟩ w36 ⟨hS_, h0_, h1_, h2_, h3_, h4_, h5_, h6_, h7_, h8_, h9_, h10_, h11_, h12_, h13_, h14_, h15_, h16_, h17_, h18_, h19_⟩
      try dsimp only at hS_ h0_ h1_ h2_ h3_ h4_ h5_ h6_ h7_ h8_ h9_ h10_ h11_ h12_ h13_ h14_ h15_ h16_ h17_ h18_ h19_
      have HO218 := Aside0.mk h0_
      have BK234 := Aside0.mk h3_
      have BK235 := Aside0.mk h4_
      have GW234 := Aside0.mk h5_
      have GE234 := Aside0.mk h6_
      have NB213_234 := Aside0.mk h7_
      have NB234_213 := Aside0.mk h8_
      have NB214_234 := Aside0.mk h9_
      have NB234_214 := Aside0.mk h10_
      have NB235_234 := Aside0.mk h11_
      have NB234_235 := Aside0.mk h12_
      have GW235 := Aside0.mk h13_
      have GE235 := Aside0.mk h14_
      have NB213_235 := Aside0.mk h15_
      have NB235_213 := Aside0.mk h16_
      have NB214_235 := Aside0.mk h17_
      have NB235_214 := Aside0.mk h18_
      replace BK213 := Aside0.mk h1_
      replace BK214 := Aside0.mk h2_
      replace HB := Aside0.mk h19_
      clear h0_ h1_ h2_ h3_ h4_ h5_ h6_ h7_ h8_ h9_ h10_ h11_ h12_ h13_ h14_ h15_ h16_ h17_ h18_ h19_
      have hHeld := hS_
      refine norm_ (a' := ?_) ?_ ?_
      rotate_left
      ·simp only [putAll, Act.put, zp1, zp2, zp3]
       rfl
      refine one_ (i := 11) (N := none) #[true, true, true, true, true, true, true, true, true, true, true, true, false, false] rfl rfl (one_of HT_.out (by kernel_rfl)) (by decide) (fun K hK => ?_)
      have hs37 : w36.cell? ⟨gb234, 0, none⟩ = some (.int .i64 0) := zc0 BK234 0 rfl
      have hfs37 := blk_frozen BK234.out 0
      have hns37_0 := NB213_234.out
      have hns37_1 := NB214_234.out
      have hns37_3 := NB235_234.out
      have hms37_0 := NB234_213.out
      have hms37_1 := NB234_214.out
      have hms37_3 := NB234_235.out
      have hs38 : w36.cell? ⟨gb234, 1, none⟩ = some (.int .i64 0) := zc0 BK234 1 rfl
      have hfs38 := blk_frozen BK234.out 1
      have hns38_0 := NB213_234.out
      have hns38_1 := NB214_234.out
      have hns38_3 := NB235_234.out
      have hms38_0 := NB234_213.out
      have hms38_1 := NB234_214.out
      have hms38_3 := NB234_235.out
      have hs39 : w36.cell? ⟨gb234, 2, none⟩ = some (.int .i64 0) := zc0 BK234 2 rfl
      have hfs39 := blk_frozen BK234.out 2
      have hns39_0 := NB213_234.out
      have hns39_1 := NB214_234.out
      have hns39_3 := NB235_234.out
      have hms39_0 := NB234_213.out
      have hms39_1 := NB234_214.out
      have hms39_3 := NB234_235.out
      have hs40 : w36.cell? ⟨gb234, 3, none⟩ = some (.int .i64 0) := zc0 BK234 3 rfl
      have hfs40 := blk_frozen BK234.out 3
      have hns40_0 := NB213_234.out
      have hns40_1 := NB214_234.out
      have hns40_3 := NB235_234.out
      have hms40_0 := NB234_213.out
      have hms40_1 := NB234_214.out
      have hms40_3 := NB234_235.out
      refine skip_ (w1 := ?_) (by rfl) rfl ?_ ?_
      rotate_left
      ·go_simp
       rfl
      refine hK.out _ _ ⟨((cell_far (p := ⟨gb234, _, none⟩) NB213_234.out _).trans (((cell_far (p := ⟨gb234, _, none⟩) NB213_234.out _).trans (((cell_far (p := ⟨gb234, _, none⟩) NB213_234.out _).trans (((cell_far (p := ⟨gb234, _, none⟩) NB213_234.out _).trans (hHeld.1)))))))), ((cell_far (p := ⟨gb234, _, none⟩) NB214_234.out _).trans (((cell_far (p := ⟨gb234, _, none⟩) NB214_234.out _).trans (((cell_far (p := ⟨gb234, _, none⟩) NB214_234.out _).trans (((cell_far (p := ⟨gb234, _, none⟩) NB214_234.out _).trans (hHeld.2.1)))))))), ((cell_far (p := ⟨gb234, _, none⟩) NB214_234.out _).trans (((cell_far (p := ⟨gb234, _, none⟩) NB214_234.out _).trans (((cell_far (p := ⟨gb234, _, none⟩) NB214_234.out _).trans (((cell_far (p := ⟨gb234, _, none⟩) NB214_234.out _).trans (hHeld.2.2.1)))))))), ((cell_far (p := ⟨gb234, _, none⟩) NB214_234.out _).trans (((cell_far (p := ⟨gb234, _, none⟩) NB214_234.out _).trans (((cell_far (p := ⟨gb234, _, none⟩) NB214_234.out _).trans (((cell_far (p := ⟨gb234, _, none⟩) NB214_234.out _).trans (hHeld.2.2.2.1)))))))), ((cell_far (p := ⟨gb234, _, none⟩) NB214_234.out _).trans (((cell_far (p := ⟨gb234, _, none⟩) NB214_234.out _).trans (((cell_far (p := ⟨gb234, _, none⟩) NB214_234.out _).trans (((cell_far (p := ⟨gb234, _, none⟩) NB214_234.out _).trans (hHeld.2.2.2.2.1)))))))), ((cell_far (p := ⟨gb234, _, none⟩) NB214_234.out _).trans (((cell_far (p := ⟨gb234, _, none⟩) NB214_234.out _).trans (((cell_far (p := ⟨gb234, _, none⟩) NB214_234.out _).trans (((cell_far (p := ⟨gb234, _, none⟩) NB214_234.out _).trans (hHeld.2.2.2.2.2.1)))))))), ((cell_far (p := ⟨gb234, _, none⟩) NB214_234.out _).trans (((cell_far (p := ⟨gb234, _, none⟩) NB214_234.out _).trans (((cell_far (p := ⟨gb234, _, none⟩) NB214_234.out _).trans (((cell_far (p := ⟨gb234, _, none⟩) NB214_234.out _).trans (hHeld.2.2.2.2.2.2))))))))⟩ (fun hHeld => ?_)
      clear hK K
      refine one_ (i := 12) (N := none) #[true, true, true, true, true, true, true, true, true, true, true, true, true, false] rfl rfl (one_of HT_.out (by kernel_rfl)) (by decide) (fun K hK => ?_)
      have hs41 : w36.cell? ⟨gb235, 0, none⟩ = some (.int .i64 0) := zc0 BK235 0 rfl
      have hfs41 := blk_frozen BK235.out 0
      have hns41_0 := NB213_235.out
      have hns41_1 := NB214_235.out
      have hns41_2 := NB234_235.out
      have hms41_0 := NB235_213.out
      have hms41_1 := NB235_214.out
      have hms41_2 := NB235_234.out
      have hs42 : w36.cell? ⟨gb235, 1, none⟩ = some (.int .i64 0) := zc0 BK235 1 rfl
      have hfs42 := blk_frozen BK235.out 1
      have hns42_0 := NB213_235.out
      have hns42_1 := NB214_235.out
      have hns42_2 := NB234_235.out
      have hms42_0 := NB235_213.out
      have hms42_1 := NB235_214.out
      have hms42_2 := NB235_234.out
      have hs43 : w36.cell? ⟨gb235, 2, none⟩ = some (.int .i64 0) := zc0 BK235 2 rfl
      have hfs43 := blk_frozen BK235.out 2
      have hns43_0 := NB213_235.out
      have hns43_1 := NB214_235.out
      have hns43_2 := NB234_235.out
      have hms43_0 := NB235_213.out
      have hms43_1 := NB235_214.out
      have hms43_2 := NB235_234.out
      have hs44 : w36.cell? ⟨gb235, 3, none⟩ = some (.int .i64 0) := zc0 BK235 3 rfl
      have hfs44 := blk_frozen BK235.out 3
      have hns44_0 := NB213_235.out
      have hns44_1 := NB214_235.out
      have hns44_2 := NB234_235.out
      have hms44_0 := NB235_213.out
      have hms44_1 := NB235_214.out
      have hms44_2 := NB235_234.out
      refine skip_ (w1 := ?_) (by rfl) rfl ?_ ?_
      rotate_left
      ·go_simp
       rfl
      refine hK.out _ _ ⟨((cell_far (p := ⟨gb235, _, none⟩) NB213_235.out _).trans (((cell_far (p := ⟨gb235, _, none⟩) NB213_235.out _).trans (((cell_far (p := ⟨gb235, _, none⟩) NB213_235.out _).trans (((cell_far (p := ⟨gb235, _, none⟩) NB213_235.out _).trans (hHeld.1)))))))), ((cell_far (p := ⟨gb235, _, none⟩) NB214_235.out _).trans (((cell_far (p := ⟨gb235, _, none⟩) NB214_235.out _).trans (((cell_far (p := ⟨gb235, _, none⟩) NB214_235.out _).trans (((cell_far (p := ⟨gb235, _, none⟩) NB214_235.out _).trans (hHeld.2.1)))))))), ((cell_far (p := ⟨gb235, _, none⟩) NB214_235.out _).trans (((cell_far (p := ⟨gb235, _, none⟩) NB214_235.out _).trans (((cell_far (p := ⟨gb235, _, none⟩) NB214_235.out _).trans (((cell_far (p := ⟨gb235, _, none⟩) NB214_235.out _).trans (hHeld.2.2.1)))))))), ((cell_far (p := ⟨gb235, _, none⟩) NB214_235.out _).trans (((cell_far (p := ⟨gb235, _, none⟩) NB214_235.out _).trans (((cell_far (p := ⟨gb235, _, none⟩) NB214_235.out _).trans (((cell_far (p := ⟨gb235, _, none⟩) NB214_235.out _).trans (hHeld.2.2.2.1)))))))), ((cell_far (p := ⟨gb235, _, none⟩) NB214_235.out _).trans (((cell_far (p := ⟨gb235, _, none⟩) NB214_235.out _).trans (((cell_far (p := ⟨gb235, _, none⟩) NB214_235.out _).trans (((cell_far (p := ⟨gb235, _, none⟩) NB214_235.out _).trans (hHeld.2.2.2.2.1)))))))), ((cell_far (p := ⟨gb235, _, none⟩) NB214_235.out _).trans (((cell_far (p := ⟨gb235, _, none⟩) NB214_235.out _).trans (((cell_far (p := ⟨gb235, _, none⟩) NB214_235.out _).trans (((cell_far (p := ⟨gb235, _, none⟩) NB214_235.out _).trans (hHeld.2.2.2.2.2.1)))))))), ((cell_far (p := ⟨gb235, _, none⟩) NB214_235.out _).trans (((cell_far (p := ⟨gb235, _, none⟩) NB214_235.out _).trans (((cell_far (p := ⟨gb235, _, none⟩) NB214_235.out _).trans (((cell_far (p := ⟨gb235, _, none⟩) NB214_235.out _).trans (hHeld.2.2.2.2.2.2))))))))⟩ (fun hHeld => ?_)
      clear hK K
      refine pure_ (i := 13) (N := some 8) (v := ?_) (a' := ?_) #[true, true, true, true, true, true, true, true, true, true, true, true, true, true] rfl rfl (any_of HT_.out (by kernel_rfl)) (fun _ _ _ h => h) (Or.inl ⟨by rfl, ?_⟩) ?_ ?_
      rotate_left
      ·intro w'
       go_simp
       with_reducible rfl
      rotate_left
      ·simp only [Act.put, zp1, zp2, zp3, i64_w, i32_w]
       rfl
      refine done_ (done_of HT_.out (by kernel_rfl)) ?_
      have hnb45 := NB213_234.out
      have hnc45 := NB234_213.out
      have hnb46 := NB213_235.out
      have hnc46 := NB235_213.out
      have hcz47_0 : w36.cell? ⟨gb213, 0, none⟩ = some (.slice A0_0 l0_0.length c0_0) := zc0 BK213 0 rfl
      have hfz47_0 := blk_frozen BK213.out 0
      try go_wp2_with (first | ((with_reducible refine gate_callee (f := 16) rfl ?_); refine goesL_ (some 28) rfl rfl Try.func16 (by kernel_rfl) rfl #[.agg #[.slice A0_0 l0_0.length c0_0]] rfl (by (try simp only [List.map_toArray, List.map_cons, List.map_nil]); first | done | rfl | (simp only [List.length_drop, List.length_take]; rfl)) ?_; (with_reducible refine (laws_toMemory.calls k _ _ l0_0 t236 _ ?side1 ?side2 A13.out).mono ?_); (case side1 => exact Kd.C_below HR0_0.out (by repeat (first | (with_reducible first | exact HB.out | apply below_alloc | apply pw_below_drewN | apply below_drew1 | refine below_set ?_ GE213.out | refine below_set ?_ GE214.out | refine below_set ?_ GE234.out | refine below_set ?_ GE235.out) | exact HB.out))); (case side2 => exact HC0_0.out); rintro e w48 ⟨v237, rfl, ho0, hb⟩; refine ⟨_, rfl, ?_⟩; have n0_ := Aside0.mk (Kd.S_elder' (by (with_reducible repeat (first | apply Kd.S_alloc | apply Kd.S_drewN | apply Kd.S_drew)); exact (Kd.S_mono (Kd.S_mono (Kd.S_far (p := ⟨gb235, 3, none⟩) (Kd.S_far (p := ⟨gb235, 2, none⟩) (Kd.S_far (p := ⟨gb235, 1, none⟩) (Kd.S_far (p := ⟨gb235, 0, none⟩) (Kd.S_far (p := ⟨gb234, 3, none⟩) (Kd.S_far (p := ⟨gb234, 2, none⟩) (Kd.S_far (p := ⟨gb234, 1, none⟩) (Kd.S_far (p := ⟨gb234, 0, none⟩) (Kd.S_types (Kd.S_types HO218.out BK234.out (by decide)) BK235.out (by decide)) (fun _ hk => hk.1.2) (.int .i64 t225)) (fun _ hk => hk.1.2) (.int .i64 t226)) (fun _ hk => hk.1.2) (.int .i64 t227)) (fun _ hk => hk.1.2) (.int .i64 t228)) (fun _ hk => hk.2) (.int .i64 t229)) (fun _ hk => hk.2) (.int .i64 t230)) (fun _ hk => hk.2) (.int .i64 t231)) (fun _ hk => hk.2) (.int .i64 t232)) (fun _ h_ => h_.1)) (fun _ h_ => h_.1))) (Kd.S_base ho0) hb); have n1_ := Aside0.mk (Kd.S_lower (Kd.S_new' ho0 (Kd.S_lt (by (with_reducible repeat (first | apply Kd.S_alloc | apply Kd.S_drewN | apply Kd.S_drew)); exact (Kd.S_mono (Kd.S_mono (Kd.S_far (p := ⟨gb235, 3, none⟩) (Kd.S_far (p := ⟨gb235, 2, none⟩) (Kd.S_far (p := ⟨gb235, 1, none⟩) (Kd.S_far (p := ⟨gb235, 0, none⟩) (Kd.S_far (p := ⟨gb234, 3, none⟩) (Kd.S_far (p := ⟨gb234, 2, none⟩) (Kd.S_far (p := ⟨gb234, 1, none⟩) (Kd.S_far (p := ⟨gb234, 0, none⟩) (Kd.S_types (Kd.S_types HO218.out BK234.out (by decide)) BK235.out (by decide)) (fun _ hk => hk.1.2) (.int .i64 t225)) (fun _ hk => hk.1.2) (.int .i64 t226)) (fun _ hk => hk.1.2) (.int .i64 t227)) (fun _ hk => hk.1.2) (.int .i64 t228)) (fun _ hk => hk.2) (.int .i64 t229)) (fun _ hk => hk.2) (.int .i64 t230)) (fun _ hk => hk.2) (.int .i64 t231)) (fun _ hk => hk.2) (.int .i64 t232)) (fun _ h_ => h_.1)) (fun _ h_ => h_.1))))) (below_size (by repeat (first | (with_reducible first | exact HB.out | apply below_alloc | apply pw_below_drewN | apply below_drew1 | refine below_set ?_ GE213.out | refine below_set ?_ GE214.out | refine below_set ?_ GE234.out | refine below_set ?_ GE235.out) | exact HB.out)))); have n2_ := Aside0.mk (blk_below (g := gb213) (o := .cells #[.slice A0_0 l0_0.length c0_0] 24 (0, 0)) (by (with_reducible repeat (first | refine blk_drewN ?_ _ | refine blk_drew ?_ | refine blk_alloc ?_ _)); refine blk_far ?_ NB213_235.out _; (with_reducible repeat (first | refine blk_drewN ?_ _ | refine blk_drew ?_ | refine blk_alloc ?_ _)); refine blk_far ?_ NB213_235.out _; (with_reducible repeat (first | refine blk_drewN ?_ _ | refine blk_drew ?_ | refine blk_alloc ?_ _)); refine blk_far ?_ NB213_235.out _; (with_reducible repeat (first | refine blk_drewN ?_ _ | refine blk_drew ?_ | refine blk_alloc ?_ _)); refine blk_far ?_ NB213_235.out _; (with_reducible repeat (first | refine blk_drewN ?_ _ | refine blk_drew ?_ | refine blk_alloc ?_ _)); refine blk_far ?_ NB213_234.out _; (with_reducible repeat (first | refine blk_drewN ?_ _ | refine blk_drew ?_ | refine blk_alloc ?_ _)); refine blk_far ?_ NB213_234.out _; (with_reducible repeat (first | refine blk_drewN ?_ _ | refine blk_drew ?_ | refine blk_alloc ?_ _)); refine blk_far ?_ NB213_234.out _; (with_reducible repeat (first | refine blk_drewN ?_ _ | refine blk_drew ?_ | refine blk_alloc ?_ _)); refine blk_far ?_ NB213_234.out _; (with_reducible repeat (first | refine blk_drewN ?_ _ | refine blk_drew ?_ | refine blk_alloc ?_ _)); exact BK213.out) hb); have n3_ := Aside0.mk (blk_below (g := gb214) (o := .cells #[.int .i64 a1_0, .int .i64 a1_1, .int .i64 a1_2, .int .i64 a1_3, .int .i64 a1_4, .int .i64 a1_5] 28 (0, 0)) (by (with_reducible repeat (first | refine blk_drewN ?_ _ | refine blk_drew ?_ | refine blk_alloc ?_ _)); refine blk_far ?_ NB214_235.out _; (with_reducible repeat (first | refine blk_drewN ?_ _ | refine blk_drew ?_ | refine blk_alloc ?_ _)); refine blk_far ?_ NB214_235.out _; (with_reducible repeat (first | refine blk_drewN ?_ _ | refine blk_drew ?_ | refine blk_alloc ?_ _)); refine blk_far ?_ NB214_235.out _; (with_reducible repeat (first | refine blk_drewN ?_ _ | refine blk_drew ?_ | refine blk_alloc ?_ _)); refine blk_far ?_ NB214_235.out _; (with_reducible repeat (first | refine blk_drewN ?_ _ | refine blk_drew ?_ | refine blk_alloc ?_ _)); refine blk_far ?_ NB214_234.out _; (with_reducible repeat (first | refine blk_drewN ?_ _ | refine blk_drew ?_ | refine blk_alloc ?_ _)); refine blk_far ?_ NB214_234.out _; (with_reducible repeat (first | refine blk_drewN ?_ _ | refine blk_drew ?_ | refine blk_alloc ?_ _)); refine blk_far ?_ NB214_234.out _; (with_reducible repeat (first | refine blk_drewN ?_ _ | refine blk_drew ?_ | refine blk_alloc ?_ _)); refine blk_far ?_ NB214_234.out _; (with_reducible repeat (first | refine blk_drewN ?_ _ | refine blk_drew ?_ | refine blk_alloc ?_ _)); exact BK214.out) hb); have n4_ := Aside0.mk (blk_below (g := gb234) (o := .cells #[.int .i64 t225, .int .i64 t226, .int .i64 t227, .int .i64 t228] 34 (0, 0)) (by (with_reducible repeat (first | refine blk_drewN ?_ _ | refine blk_drew ?_ | refine blk_alloc ?_ _)); refine blk_far ?_ NB234_235.out _; (with_reducible repeat (first | refine blk_drewN ?_ _ | refine blk_drew ?_ | refine blk_alloc ?_ _)); refine blk_far ?_ NB234_235.out _; (with_reducible repeat (first | refine blk_drewN ?_ _ | refine blk_drew ?_ | refine blk_alloc ?_ _)); refine blk_far ?_ NB234_235.out _; (with_reducible repeat (first | refine blk_drewN ?_ _ | refine blk_drew ?_ | refine blk_alloc ?_ _)); refine blk_far ?_ NB234_235.out _; (with_reducible repeat (first | refine blk_drewN ?_ _ | refine blk_drew ?_ | refine blk_alloc ?_ _)); refine blk_put (cs := #[.int .i64 t225, .int .i64 t226, .int .i64 t227, .int .i64 0]) ?_ 3 _ rfl; (with_reducible repeat (first | refine blk_drewN ?_ _ | refine blk_drew ?_ | refine blk_alloc ?_ _)); refine blk_put (cs := #[.int .i64 t225, .int .i64 t226, .int .i64 0, .int .i64 0]) ?_ 2 _ rfl; (with_reducible repeat (first | refine blk_drewN ?_ _ | refine blk_drew ?_ | refine blk_alloc ?_ _)); refine blk_put (cs := #[.int .i64 t225, .int .i64 0, .int .i64 0, .int .i64 0]) ?_ 1 _ rfl; (with_reducible repeat (first | refine blk_drewN ?_ _ | refine blk_drew ?_ | refine blk_alloc ?_ _)); refine blk_put (cs := #[.int .i64 0, .int .i64 0, .int .i64 0, .int .i64 0]) ?_ 0 _ rfl; (with_reducible repeat (first | refine blk_drewN ?_ _ | refine blk_drew ?_ | refine blk_alloc ?_ _)); exact BK234.out) hb); have n5_ := Aside0.mk (blk_below (g := gb235) (o := .cells #[.int .i64 t229, .int .i64 t230, .int .i64 t231, .int .i64 t232] 34 (0, 0)) (by (with_reducible repeat (first | refine blk_drewN ?_ _ | refine blk_drew ?_ | refine blk_alloc ?_ _)); refine blk_put (cs := #[.int .i64 t229, .int .i64 t230, .int .i64 t231, .int .i64 0]) ?_ 3 _ rfl; (with_reducible repeat (first | refine blk_drewN ?_ _ | refine blk_drew ?_ | refine blk_alloc ?_ _)); refine blk_put (cs := #[.int .i64 t229, .int .i64 t230, .int .i64 0, .int .i64 0]) ?_ 2 _ rfl; (with_reducible repeat (first | refine blk_drewN ?_ _ | refine blk_drew ?_ | refine blk_alloc ?_ _)); refine blk_put (cs := #[.int .i64 t229, .int .i64 0, .int .i64 0, .int .i64 0]) ?_ 1 _ rfl; (with_reducible repeat (first | refine blk_drewN ?_ _ | refine blk_drew ?_ | refine blk_alloc ?_ _)); refine blk_put (cs := #[.int .i64 0, .int .i64 0, .int .i64 0, .int .i64 0]) ?_ 0 _ rfl; (with_reducible repeat (first | refine blk_drewN ?_ _ | refine blk_drew ?_ | refine blk_alloc ?_ _)); refine blk_far ?_ NB235_234.out _; (with_reducible repeat (first | refine blk_drewN ?_ _ | refine blk_drew ?_ | refine blk_alloc ?_ _)); refine blk_far ?_ NB235_234.out _; (with_reducible repeat (first | refine blk_drewN ?_ _ | refine blk_drew ?_ | refine blk_alloc ?_ _)); refine blk_far ?_ NB235_234.out _; (with_reducible repeat (first | refine blk_drewN ?_ _ | refine blk_drew ?_ | refine blk_alloc ?_ _)); refine blk_far ?_ NB235_234.out _; (with_reducible repeat (first | refine blk_drewN ?_ _ | refine blk_drew ?_ | refine blk_alloc ?_ _)); exact BK235.out) hb); have n6_ := Aside0.mk (below_step (by repeat (first | (with_reducible first | exact HB.out | apply below_alloc | apply pw_below_drewN | apply below_drew1 | refine below_set ?_ GE213.out | refine below_set ?_ GE214.out | refine below_set ?_ GE234.out | refine below_set ?_ GE235.out) | exact HB.out)) hb); clear HO218; clear BK213; clear BK214; clear BK234; clear BK235; clear HB; have HO218 := n0_; have HO238 := n1_; have BK213 := n2_; have BK214 := n3_; have BK234 := n4_; have BK235 := n5_; have HB := n6_; clear n0_ n1_ n2_ n3_ n4_ n5_ n6_; (try clear hb); (try clear hb2); (try clear hk); (try clear hi); (try clear ho0)) | ((with_reducible refine gate_dst (N := 9) rfl ?_); refine box_event ?hg (N := 9) ?hd (cs := #[.slice none 0 0]) (t := 32) ?hr ?_; (case hd => rfl); (case hg => rfl); (case hr => first | (go_simp; done) | (go_simp; rfl)); intro gb239 hg w49 hbox hb; have n0_ := zsb HO218 hb; have n1_ := zsb HO238 hb; have n2_ := Aside0.mk (blk_below (g := gb213) (o := .cells #[.slice A0_0 l0_0.length c0_0] 24 (0, 0)) (by (with_reducible repeat (first | refine blk_drewN ?_ _ | refine blk_drew ?_ | refine blk_alloc ?_ _)); exact BK213.out) hb); have n3_ := Aside0.mk (blk_below (g := gb214) (o := .cells #[.int .i64 a1_0, .int .i64 a1_1, .int .i64 a1_2, .int .i64 a1_3, .int .i64 a1_4, .int .i64 a1_5] 28 (0, 0)) (by (with_reducible repeat (first | refine blk_drewN ?_ _ | refine blk_drew ?_ | refine blk_alloc ?_ _)); exact BK214.out) hb); have n4_ := Aside0.mk (blk_below (g := gb234) (o := .cells #[.int .i64 t225, .int .i64 t226, .int .i64 t227, .int .i64 t228] 34 (0, 0)) (by (with_reducible repeat (first | refine blk_drewN ?_ _ | refine blk_drew ?_ | refine blk_alloc ?_ _)); exact BK234.out) hb); have n5_ := Aside0.mk (blk_below (g := gb235) (o := .cells #[.int .i64 t229, .int .i64 t230, .int .i64 t231, .int .i64 t232] 34 (0, 0)) (by (with_reducible repeat (first | refine blk_drewN ?_ _ | refine blk_drew ?_ | refine blk_alloc ?_ _)); exact BK235.out) hb); have n6_ := Aside0.mk (below_step (by repeat (first | (with_reducible first | exact HB.out | apply below_alloc | apply pw_below_drewN | apply below_drew1 | refine below_set ?_ GE213.out | refine below_set ?_ GE214.out | refine below_set ?_ GE234.out | refine below_set ?_ GE235.out) | exact HB.out)) hb); have n7_ := Aside0.mk (hbox); have n8_ := Aside0.mk ((by rw [hg]; exact (below_size (by repeat (first | (with_reducible first | exact HB.out | apply below_alloc | apply pw_below_drewN | apply below_drew1 | refine below_set ?_ GE213.out | refine below_set ?_ GE214.out | refine below_set ?_ GE234.out | refine below_set ?_ GE235.out) | exact HB.out))) : w.heap.size ≤ gb239)); have n9_ := Aside0.mk ((by rw [hg]; exact (below_size (by repeat (first | (with_reducible first | exact HB.out | apply below_alloc | apply pw_below_drewN | apply below_drew1 | refine below_set ?_ GE213.out | refine below_set ?_ GE214.out | refine below_set ?_ GE234.out | refine below_set ?_ GE235.out) | exact HB.out))) : w.heap.size ≤ gb239)); have n10_ := Aside0.mk ((by rw [hg]; exact Nat.ne_of_lt (blk_lt (g := gb213) (o := .cells #[.slice A0_0 l0_0.length c0_0] 24 (0, 0)) (by (with_reducible repeat (first | refine blk_drewN ?_ _ | refine blk_drew ?_ | refine blk_alloc ?_ _)); exact BK213.out)) : gb213 ≠ gb239)); have n11_ := Aside0.mk ((by rw [hg]; exact Nat.ne_of_gt (blk_lt (g := gb213) (o := .cells #[.slice A0_0 l0_0.length c0_0] 24 (0, 0)) (by (with_reducible repeat (first | refine blk_drewN ?_ _ | refine blk_drew ?_ | refine blk_alloc ?_ _)); exact BK213.out)) : gb239 ≠ gb213)); have n12_ := Aside0.mk ((by rw [hg]; exact Nat.ne_of_lt (blk_lt (g := gb214) (o := .cells #[.int .i64 a1_0, .int .i64 a1_1, .int .i64 a1_2, .int .i64 a1_3, .int .i64 a1_4, .int .i64 a1_5] 28 (0, 0)) (by (with_reducible repeat (first | refine blk_drewN ?_ _ | refine blk_drew ?_ | refine blk_alloc ?_ _)); exact BK214.out)) : gb214 ≠ gb239)); have n13_ := Aside0.mk ((by rw [hg]; exact Nat.ne_of_gt (blk_lt (g := gb214) (o := .cells #[.int .i64 a1_0, .int .i64 a1_1, .int .i64 a1_2, .int .i64 a1_3, .int .i64 a1_4, .int .i64 a1_5] 28 (0, 0)) (by (with_reducible repeat (first | refine blk_drewN ?_ _ | refine blk_drew ?_ | refine blk_alloc ?_ _)); exact BK214.out)) : gb239 ≠ gb214)); have n14_ := Aside0.mk ((by rw [hg]; exact Nat.ne_of_lt (blk_lt (g := gb234) (o := .cells #[.int .i64 t225, .int .i64 t226, .int .i64 t227, .int .i64 t228] 34 (0, 0)) (by (with_reducible repeat (first | refine blk_drewN ?_ _ | refine blk_drew ?_ | refine blk_alloc ?_ _)); exact BK234.out)) : gb234 ≠ gb239)); have n15_ := Aside0.mk ((by rw [hg]; exact Nat.ne_of_gt (blk_lt (g := gb234) (o := .cells #[.int .i64 t225, .int .i64 t226, .int .i64 t227, .int .i64 t228] 34 (0, 0)) (by (with_reducible repeat (first | refine blk_drewN ?_ _ | refine blk_drew ?_ | refine blk_alloc ?_ _)); exact BK234.out)) : gb239 ≠ gb234)); have n16_ := Aside0.mk ((by rw [hg]; exact Nat.ne_of_lt (blk_lt (g := gb235) (o := .cells #[.int .i64 t229, .int .i64 t230, .int .i64 t231, .int .i64 t232] 34 (0, 0)) (by (with_reducible repeat (first | refine blk_drewN ?_ _ | refine blk_drew ?_ | refine blk_alloc ?_ _)); exact BK235.out)) : gb235 ≠ gb239)); have n17_ := Aside0.mk ((by rw [hg]; exact Nat.ne_of_gt (blk_lt (g := gb235) (o := .cells #[.int .i64 t229, .int .i64 t230, .int .i64 t231, .int .i64 t232] 34 (0, 0)) (by (with_reducible repeat (first | refine blk_drewN ?_ _ | refine blk_drew ?_ | refine blk_alloc ?_ _)); exact BK235.out)) : gb239 ≠ gb235)); clear HO218; clear HO238; clear BK213; clear BK214; clear BK234; clear BK235; clear HB; have HO218 := n0_; have HO238 := n1_; have BK213 := n2_; have BK214 := n3_; have BK234 := n4_; have BK235 := n5_; have HB := n6_; have BK239 := n7_; have GW239 := n8_; have GE239 := n9_; have NB213_239 := n10_; have NB239_213 := n11_; have NB214_239 := n12_; have NB239_214 := n13_; have NB234_239 := n14_; have NB239_234 := n15_; have NB235_239 := n16_; have NB239_235 := n17_; clear n0_ n1_ n2_ n3_ n4_ n5_ n6_ n7_ n8_ n9_ n10_ n11_ n12_ n13_ n14_ n15_ n16_ n17_; clear hb hbox hg; obtain ⟨Ao50, co50, eo50⟩ := Kd.S_slice HO238.out; subst eo50; have hnb51 := NB239_213.out; have hnc51 := NB213_239.out; have hnb52 := NB239_214.out; have hnc52 := NB214_239.out; have hnb53 := NB239_234.out; have hnc53 := NB234_239.out; have hnb54 := NB239_235.out; have hnc54 := NB235_239.out; have hcz55_0 : w49.cell? ⟨gb239, 0, none⟩ = some (.slice none 0 0) := zc0 BK239 0 rfl; have hfz55_0 := blk_frozen BK239.out 0))
      have n0_ : Aside0 (Kd.S (Kd.slice 5 (Kd.int .u8)) 65 (w49.setCell ⟨gb239, 0, none⟩ (.slice Ao50 t236.length co50)) w.heap.size (fun k_ => some k_ ≠ (.slice Ao50 t236.length co50 : Value).ownBlock) v217 t216) := ⟨by (with_reducible repeat (first | apply Kd.S_alloc | apply Kd.S_drewN | apply Kd.S_drew)); exact Kd.S_mono (Kd.S_far (p := ⟨gb239, 0, none⟩) (Kd.S_types HO218.out BK239.out (by decide)) (fun _ hk => hk.2) (.slice Ao50 t236.length co50)) (fun _ hk => hk.1.2)⟩
      have n1_ : Aside0 (Kd.S (Kd.slice 5 (Kd.int .u8)) 65 (w49.setCell ⟨gb239, 0, none⟩ (.slice Ao50 t236.length co50)) w.heap.size (fun k_ => some k_ ≠ (v217 : Value).ownBlock) (.slice Ao50 t236.length co50) t236) := ⟨by (with_reducible repeat (first | apply Kd.S_alloc | apply Kd.S_drewN | apply Kd.S_drew)); exact Kd.S_mono (Kd.S_far (p := ⟨gb239, 0, none⟩) (Kd.S_types HO238.out BK239.out (by decide)) (fun _ hk => hk.2) (.slice Ao50 t236.length co50)) (fun _ hk => hk.1.2)⟩
      have n2_ : Aside0 ((w49.setCell ⟨gb239, 0, none⟩ (.slice Ao50 t236.length co50)).heap[gb213]? = some (.cells #[.slice A0_0 l0_0.length c0_0] 24 (0, 0))) := ⟨by (with_reducible repeat (first | refine blk_drewN ?_ _ | refine blk_drew ?_ | refine blk_alloc ?_ _)); refine blk_far ?_ NB213_239.out _; (with_reducible repeat (first | refine blk_drewN ?_ _ | refine blk_drew ?_ | refine blk_alloc ?_ _)); exact BK213.out⟩
      have n3_ : Aside0 ((w49.setCell ⟨gb239, 0, none⟩ (.slice Ao50 t236.length co50)).heap[gb214]? = some (.cells #[.int .i64 a1_0, .int .i64 a1_1, .int .i64 a1_2, .int .i64 a1_3, .int .i64 a1_4, .int .i64 a1_5] 28 (0, 0))) := ⟨by (with_reducible repeat (first | refine blk_drewN ?_ _ | refine blk_drew ?_ | refine blk_alloc ?_ _)); refine blk_far ?_ NB214_239.out _; (with_reducible repeat (first | refine blk_drewN ?_ _ | refine blk_drew ?_ | refine blk_alloc ?_ _)); exact BK214.out⟩
      have n4_ : Aside0 ((w49.setCell ⟨gb239, 0, none⟩ (.slice Ao50 t236.length co50)).heap[gb234]? = some (.cells #[.int .i64 t225, .int .i64 t226, .int .i64 t227, .int .i64 t228] 34 (0, 0))) := ⟨by (with_reducible repeat (first | refine blk_drewN ?_ _ | refine blk_drew ?_ | refine blk_alloc ?_ _)); refine blk_far ?_ NB234_239.out _; (with_reducible repeat (first | refine blk_drewN ?_ _ | refine blk_drew ?_ | refine blk_alloc ?_ _)); exact BK234.out⟩
      have n5_ : Aside0 ((w49.setCell ⟨gb239, 0, none⟩ (.slice Ao50 t236.length co50)).heap[gb235]? = some (.cells #[.int .i64 t229, .int .i64 t230, .int .i64 t231, .int .i64 t232] 34 (0, 0))) := ⟨by (with_reducible repeat (first | refine blk_drewN ?_ _ | refine blk_drew ?_ | refine blk_alloc ?_ _)); refine blk_far ?_ NB235_239.out _; (with_reducible repeat (first | refine blk_drewN ?_ _ | refine blk_drew ?_ | refine blk_alloc ?_ _)); exact BK235.out⟩
      have n6_ : Aside0 ((w49.setCell ⟨gb239, 0, none⟩ (.slice Ao50 t236.length co50)).heap[gb239]? = some (.cells #[.slice Ao50 t236.length co50] 32 (0, 0))) := ⟨by (with_reducible repeat (first | refine blk_drewN ?_ _ | refine blk_drew ?_ | refine blk_alloc ?_ _)); refine blk_put (cs := #[.slice none 0 0]) ?_ 0 _ rfl; (with_reducible repeat (first | refine blk_drewN ?_ _ | refine blk_drew ?_ | refine blk_alloc ?_ _)); exact BK239.out⟩
      have n7_ : Aside0 (Below w.heap.size w (w49.setCell ⟨gb239, 0, none⟩ (.slice Ao50 t236.length co50))) := ⟨by repeat (first | (with_reducible first | exact HB.out | apply below_alloc | apply pw_below_drewN | apply below_drew1 | refine below_set ?_ GE213.out | refine below_set ?_ GE214.out | refine below_set ?_ GE234.out | refine below_set ?_ GE235.out | refine below_set ?_ GE239.out) | exact HB.out)⟩
      (try clear HO218)
      (try clear HO238)
      (try clear BK213)
      (try clear BK214)
      (try clear BK234)
      (try clear BK235)
      (try clear BK239)
      (try clear HB)
      generalize (w49.setCell ⟨gb239, 0, none⟩ (.slice Ao50 t236.length co50)) = w56 at n0_ n1_ n2_ n3_ n4_ n5_ n6_ n7_ ⊢
      have HO218 := n0_
      have HO238 := n1_
      have BK213 := n2_
      have BK214 := n3_
      have BK234 := n4_
      have BK235 := n5_
      have BK239 := n6_
      have HB := n7_
      clear n0_ n1_ n2_ n3_ n4_ n5_ n6_ n7_
      replace HO218 := Aside0.mk (Kd.S_drew HO218.out)
      replace HO238 := Aside0.mk (Kd.S_drew HO238.out)
      replace BK213 := Aside0.mk (blk_drew BK213.out)
      replace BK214 := Aside0.mk (blk_drew BK214.out)
      replace BK234 := Aside0.mk (blk_drew BK234.out)
      replace BK235 := Aside0.mk (blk_drew BK235.out)
      replace BK239 := Aside0.mk (blk_drew BK239.out)
      replace HB := Aside0.mk (below_drew1 HB.out)
      refine start_ (n := 13) (S := fun w' => w'.cell? ⟨gb239, 0, none⟩ = some (.slice Ao50 t236.length co50) ∧ w'.cell? ⟨gb214, 0, none⟩ = some (.int .i64 a1_0) ∧ w'.cell? ⟨gb214, 1, none⟩ = some (.int .i64 a1_1) ∧ w'.cell? ⟨gb214, 2, none⟩ = some (.int .i64 a1_2) ∧ w'.cell? ⟨gb214, 3, none⟩ = some (.int .i64 a1_3) ∧ w'.cell? ⟨gb214, 4, none⟩ = some (.int .i64 a1_4) ∧ w'.cell? ⟨gb214, 5, none⟩ = some (.int .i64 a1_5)) (ds := []) #[false, false, false, false, false, false, false, false, false, false, false, false, false] (by kernel_rfl) rfl rfl ⟨zc0 BK239 0 rfl, zc0 BK214 0 rfl, zc0 BK214 1 rfl, zc0 BK214 2 rfl, zc0 BK214 3 rfl, zc0 BK214 4 rfl, zc0 BK214 5 rfl⟩ (fun hHeld => ?_); refine with_tabW laws_FnExactRingParts.tab7 laws_FnExactRingParts.bits7 (fun HT_ HW_ => ?_)
      generalize w56.drew = w57 at HO218 HO238 BK213 BK214 BK234 BK235 BK239 HB hHeld ⊢
      refine take_ (i := 0) (N := some 30) (v := ?_) (a' := ?_) #[true, false, false, false, false, false, false, false, false, false, false, false, false] rfl rfl (take_ofW HT_.out HW_.out (by kernel_rfl)) (fun _ _ _ h => h) (Or.inl ⟨by rfl, ?_⟩) hHeld ?_ ?_
      rotate_left
      ·rintro w' ⟨s0, s1, s2, s3, s4, s5, s6⟩
       go_simp
       with_reducible rfl
      rotate_left
      ·simp only [Act.put, zp1, zp2, zp3, i64_w, i32_w]
       rfl
      refine take_ (i := 1) (N := some 31) (v := ?_) (a' := ?_) #[true, true, false, false, false, false, false, false, false, false, false, false, false] rfl rfl (take_ofW HT_.out HW_.out (by kernel_rfl)) (fun _ _ _ h => h) (Or.inl ⟨by rfl, ?_⟩) hHeld ?_ ?_
      rotate_left
      ·rintro w' ⟨s0, s1, s2, s3, s4, s5, s6⟩
       go_simp
       with_reducible rfl
      rotate_left
      ·simp only [Act.put, zp1, zp2, zp3, i64_w, i32_w]
       rfl
      refine join_ (σ := Nat × Nat) 3 #[true, true, true, true, true, true, true, true, true, true, false, false, false] (fun s_ => [(32, .agg #[.int .i64 t240, .int .i64 t241, .int .i64 t242, .int .i64 t243, .int .i64 t244, .int .i64 t245]), (33, .tuple #[.agg #[.int .i64 t246, .int .i64 t247, .int .i64 t248, .int .i64 t249], .agg #[.int .i64 t250, .int .i64 t251, .int .i64 t252, .int .i64 t253], .bool t254]), (10, .pointer (some ⟨s_.1, 0, none⟩)), (11, .pointer (some ⟨s_.2, 0, none⟩)), (29, .tuple #[.agg #[.int .i64 t246, .int .i64 t247, .int .i64 t248, .int .i64 t249], .agg #[.int .i64 t250, .int .i64 t251, .int .i64 t252, .int .i64 t253], .bool t254]), (34, .agg #[.int .i64 t246, .int .i64 t247, .int .i64 t248, .int .i64 t249]), (35, .agg #[.int .i64 t250, .int .i64 t251, .int .i64 t252, .int .i64 t253]), (36, .bool t254)]) (fun s_ w' => (w'.cell? ⟨gb239, 0, none⟩ = some (.slice Ao50 t236.length co50) ∧ w'.cell? ⟨gb214, 0, none⟩ = some (.int .i64 a1_0) ∧ w'.cell? ⟨gb214, 1, none⟩ = some (.int .i64 a1_1) ∧ w'.cell? ⟨gb214, 2, none⟩ = some (.int .i64 a1_2) ∧ w'.cell? ⟨gb214, 3, none⟩ = some (.int .i64 a1_3) ∧ w'.cell? ⟨gb214, 4, none⟩ = some (.int .i64 a1_4) ∧ w'.cell? ⟨gb214, 5, none⟩ = some (.int .i64 a1_5)) ∧ (Kd.S (Kd.slice 5 (Kd.int .u8)) 65 w' w.heap.size (fun k_ => some k_ ≠ (.slice Ao50 t236.length co50 : Value).ownBlock) v217 t216) ∧ (Kd.S (Kd.slice 5 (Kd.int .u8)) 65 w' w.heap.size (fun k_ => some k_ ≠ (v217 : Value).ownBlock) (.slice Ao50 t236.length co50) t236) ∧ (w'.heap[gb213]? = some (.cells #[.slice A0_0 l0_0.length c0_0] 24 (0, 0))) ∧ (w'.heap[gb214]? = some (.cells #[.int .i64 a1_0, .int .i64 a1_1, .int .i64 a1_2, .int .i64 a1_3, .int .i64 a1_4, .int .i64 a1_5] 28 (0, 0))) ∧ (w'.heap[gb234]? = some (.cells #[.int .i64 t225, .int .i64 t226, .int .i64 t227, .int .i64 t228] 34 (0, 0))) ∧ (w'.heap[gb235]? = some (.cells #[.int .i64 t229, .int .i64 t230, .int .i64 t231, .int .i64 t232] 34 (0, 0))) ∧ (w'.heap[gb239]? = some (.cells #[.slice Ao50 t236.length co50] 32 (0, 0))) ∧ (w'.heap[s_.1]? = some (.cells #[.int .i64 0, .int .i64 0, .int .i64 0, .int .i64 0] 34 (0, 0))) ∧ (w'.heap[s_.2]? = some (.cells #[.int .i64 0, .int .i64 0, .int .i64 0, .int .i64 0] 34 (0, 0))) ∧ (w.heap.size ≤ s_.1) ∧ (w.heap.size ≤ s_.1) ∧ (gb213 ≠ s_.1) ∧ (s_.1 ≠ gb213) ∧ (gb214 ≠ s_.1) ∧ (s_.1 ≠ gb214) ∧ (gb234 ≠ s_.1) ∧ (s_.1 ≠ gb234) ∧ (gb235 ≠ s_.1) ∧ (s_.1 ≠ gb235) ∧ (gb239 ≠ s_.1) ∧ (s_.1 ≠ gb239) ∧ (s_.2 ≠ s_.1) ∧ (s_.1 ≠ s_.2) ∧ (w.heap.size ≤ s_.2) ∧ (w.heap.size ≤ s_.2) ∧ (gb213 ≠ s_.2) ∧ (s_.2 ≠ gb213) ∧ (gb214 ≠ s_.2) ∧ (s_.2 ≠ gb214) ∧ (gb234 ≠ s_.2) ∧ (s_.2 ≠ gb234) ∧ (gb235 ≠ s_.2) ∧ (s_.2 ≠ gb235) ∧ (gb239 ≠ s_.2) ∧ (s_.2 ≠ gb239) ∧ (Below w.heap.size w w')) ?_ ?_
      rotate_left
      ·intro hJ2_3_8_9
       refine join_ (σ := Nat) 4 #[true, true, true, true, true, true, true, true, true, false, false, false, false] (fun s_ => [(32, .agg #[.int .i64 t240, .int .i64 t241, .int .i64 t242, .int .i64 t243, .int .i64 t244, .int .i64 t245]), (33, .tuple #[.agg #[.int .i64 t246, .int .i64 t247, .int .i64 t248, .int .i64 t249], .agg #[.int .i64 t250, .int .i64 t251, .int .i64 t252, .int .i64 t253], .bool t254]), (10, .pointer (some ⟨s_, 0, none⟩)), (29, .tuple #[.agg #[.int .i64 t246, .int .i64 t247, .int .i64 t248, .int .i64 t249], .agg #[.int .i64 t250, .int .i64 t251, .int .i64 t252, .int .i64 t253], .bool t254]), (34, .agg #[.int .i64 t246, .int .i64 t247, .int .i64 t248, .int .i64 t249]), (35, .agg #[.int .i64 t250, .int .i64 t251, .int .i64 t252, .int .i64 t253]), (36, .bool t254)]) (fun s_ w' => (w'.cell? ⟨gb239, 0, none⟩ = some (.slice Ao50 t236.length co50) ∧ w'.cell? ⟨gb214, 0, none⟩ = some (.int .i64 a1_0) ∧ w'.cell? ⟨gb214, 1, none⟩ = some (.int .i64 a1_1) ∧ w'.cell? ⟨gb214, 2, none⟩ = some (.int .i64 a1_2) ∧ w'.cell? ⟨gb214, 3, none⟩ = some (.int .i64 a1_3) ∧ w'.cell? ⟨gb214, 4, none⟩ = some (.int .i64 a1_4) ∧ w'.cell? ⟨gb214, 5, none⟩ = some (.int .i64 a1_5)) ∧ (Kd.S (Kd.slice 5 (Kd.int .u8)) 65 w' w.heap.size (fun k_ => some k_ ≠ (.slice Ao50 t236.length co50 : Value).ownBlock) v217 t216) ∧ (Kd.S (Kd.slice 5 (Kd.int .u8)) 65 w' w.heap.size (fun k_ => some k_ ≠ (v217 : Value).ownBlock) (.slice Ao50 t236.length co50) t236) ∧ (w'.heap[gb213]? = some (.cells #[.slice A0_0 l0_0.length c0_0] 24 (0, 0))) ∧ (w'.heap[gb214]? = some (.cells #[.int .i64 a1_0, .int .i64 a1_1, .int .i64 a1_2, .int .i64 a1_3, .int .i64 a1_4, .int .i64 a1_5] 28 (0, 0))) ∧ (w'.heap[gb234]? = some (.cells #[.int .i64 t225, .int .i64 t226, .int .i64 t227, .int .i64 t228] 34 (0, 0))) ∧ (w'.heap[gb235]? = some (.cells #[.int .i64 t229, .int .i64 t230, .int .i64 t231, .int .i64 t232] 34 (0, 0))) ∧ (w'.heap[gb239]? = some (.cells #[.slice Ao50 t236.length co50] 32 (0, 0))) ∧ (w'.heap[s_]? = some (.cells #[.int .i64 0, .int .i64 0, .int .i64 0, .int .i64 0] 34 (0, 0))) ∧ (w.heap.size ≤ s_) ∧ (w.heap.size ≤ s_) ∧ (gb213 ≠ s_) ∧ (s_ ≠ gb213) ∧ (gb214 ≠ s_) ∧ (s_ ≠ gb214) ∧ (gb234 ≠ s_) ∧ (s_ ≠ gb234) ∧ (gb235 ≠ s_) ∧ (s_ ≠ gb235) ∧ (gb239 ≠ s_) ∧ (s_ ≠ gb239) ∧ (Below w.heap.size w w')) ?_ ?_
       rotate_left
       ·intro hJ2_3_8
        refine join_ (σ := Nat) 4 #[true, true, true, true, true, true, true, true, false, true, false, false, false] (fun s_ => [(32, .agg #[.int .i64 t240, .int .i64 t241, .int .i64 t242, .int .i64 t243, .int .i64 t244, .int .i64 t245]), (33, .tuple #[.agg #[.int .i64 t246, .int .i64 t247, .int .i64 t248, .int .i64 t249], .agg #[.int .i64 t250, .int .i64 t251, .int .i64 t252, .int .i64 t253], .bool t254]), (11, .pointer (some ⟨s_, 0, none⟩)), (29, .tuple #[.agg #[.int .i64 t246, .int .i64 t247, .int .i64 t248, .int .i64 t249], .agg #[.int .i64 t250, .int .i64 t251, .int .i64 t252, .int .i64 t253], .bool t254]), (34, .agg #[.int .i64 t246, .int .i64 t247, .int .i64 t248, .int .i64 t249]), (35, .agg #[.int .i64 t250, .int .i64 t251, .int .i64 t252, .int .i64 t253]), (36, .bool t254)]) (fun s_ w' => (w'.cell? ⟨gb239, 0, none⟩ = some (.slice Ao50 t236.length co50) ∧ w'.cell? ⟨gb214, 0, none⟩ = some (.int .i64 a1_0) ∧ w'.cell? ⟨gb214, 1, none⟩ = some (.int .i64 a1_1) ∧ w'.cell? ⟨gb214, 2, none⟩ = some (.int .i64 a1_2) ∧ w'.cell? ⟨gb214, 3, none⟩ = some (.int .i64 a1_3) ∧ w'.cell? ⟨gb214, 4, none⟩ = some (.int .i64 a1_4) ∧ w'.cell? ⟨gb214, 5, none⟩ = some (.int .i64 a1_5)) ∧ (Kd.S (Kd.slice 5 (Kd.int .u8)) 65 w' w.heap.size (fun k_ => some k_ ≠ (.slice Ao50 t236.length co50 : Value).ownBlock) v217 t216) ∧ (Kd.S (Kd.slice 5 (Kd.int .u8)) 65 w' w.heap.size (fun k_ => some k_ ≠ (v217 : Value).ownBlock) (.slice Ao50 t236.length co50) t236) ∧ (w'.heap[gb213]? = some (.cells #[.slice A0_0 l0_0.length c0_0] 24 (0, 0))) ∧ (w'.heap[gb214]? = some (.cells #[.int .i64 a1_0, .int .i64 a1_1, .int .i64 a1_2, .int .i64 a1_3, .int .i64 a1_4, .int .i64 a1_5] 28 (0, 0))) ∧ (w'.heap[gb234]? = some (.cells #[.int .i64 t225, .int .i64 t226, .int .i64 t227, .int .i64 t228] 34 (0, 0))) ∧ (w'.heap[gb235]? = some (.cells #[.int .i64 t229, .int .i64 t230, .int .i64 t231, .int .i64 t232] 34 (0, 0))) ∧ (w'.heap[gb239]? = some (.cells #[.slice Ao50 t236.length co50] 32 (0, 0))) ∧ (w'.heap[s_]? = some (.cells #[.int .i64 0, .int .i64 0, .int .i64 0, .int .i64 0] 34 (0, 0))) ∧ (w.heap.size ≤ s_) ∧ (w.heap.size ≤ s_) ∧ (gb213 ≠ s_) ∧ (s_ ≠ gb213) ∧ (gb214 ≠ s_) ∧ (s_ ≠ gb214) ∧ (gb234 ≠ s_) ∧ (s_ ≠ gb234) ∧ (gb235 ≠ s_) ∧ (s_ ≠ gb235) ∧ (gb239 ≠ s_) ∧ (s_ ≠ gb239) ∧ (Below w.heap.size w w')) ?_ ?_
        rotate_left
        ·intro hJ2_3_9
         refine join_ (σ := Nat × Nat) 8 #[true, true, true, false, false, false, false, false, true, true, false, false, false] (fun s_ => [(32, .agg #[.int .i64 t240, .int .i64 t241, .int .i64 t242, .int .i64 t243, .int .i64 t244, .int .i64 t245]), (10, .pointer (some ⟨s_.1, 0, none⟩)), (11, .pointer (some ⟨s_.2, 0, none⟩))]) (fun s_ w' => (w'.cell? ⟨gb239, 0, none⟩ = some (.slice Ao50 t236.length co50) ∧ w'.cell? ⟨gb214, 0, none⟩ = some (.int .i64 a1_0) ∧ w'.cell? ⟨gb214, 1, none⟩ = some (.int .i64 a1_1) ∧ w'.cell? ⟨gb214, 2, none⟩ = some (.int .i64 a1_2) ∧ w'.cell? ⟨gb214, 3, none⟩ = some (.int .i64 a1_3) ∧ w'.cell? ⟨gb214, 4, none⟩ = some (.int .i64 a1_4) ∧ w'.cell? ⟨gb214, 5, none⟩ = some (.int .i64 a1_5)) ∧ (Kd.S (Kd.slice 5 (Kd.int .u8)) 65 w' w.heap.size (fun k_ => some k_ ≠ (.slice Ao50 t236.length co50 : Value).ownBlock) v217 t216) ∧ (Kd.S (Kd.slice 5 (Kd.int .u8)) 65 w' w.heap.size (fun k_ => some k_ ≠ (v217 : Value).ownBlock) (.slice Ao50 t236.length co50) t236) ∧ (w'.heap[gb213]? = some (.cells #[.slice A0_0 l0_0.length c0_0] 24 (0, 0))) ∧ (w'.heap[gb214]? = some (.cells #[.int .i64 a1_0, .int .i64 a1_1, .int .i64 a1_2, .int .i64 a1_3, .int .i64 a1_4, .int .i64 a1_5] 28 (0, 0))) ∧ (w'.heap[gb234]? = some (.cells #[.int .i64 t225, .int .i64 t226, .int .i64 t227, .int .i64 t228] 34 (0, 0))) ∧ (w'.heap[gb235]? = some (.cells #[.int .i64 t229, .int .i64 t230, .int .i64 t231, .int .i64 t232] 34 (0, 0))) ∧ (w'.heap[gb239]? = some (.cells #[.slice Ao50 t236.length co50] 32 (0, 0))) ∧ (w'.heap[s_.1]? = some (.cells #[.int .i64 0, .int .i64 0, .int .i64 0, .int .i64 0] 34 (0, 0))) ∧ (w'.heap[s_.2]? = some (.cells #[.int .i64 0, .int .i64 0, .int .i64 0, .int .i64 0] 34 (0, 0))) ∧ (w.heap.size ≤ s_.1) ∧ (w.heap.size ≤ s_.1) ∧ (gb213 ≠ s_.1) ∧ (s_.1 ≠ gb213) ∧ (gb214 ≠ s_.1) ∧ (s_.1 ≠ gb214) ∧ (gb234 ≠ s_.1) ∧ (s_.1 ≠ gb234) ∧ (gb235 ≠ s_.1) ∧ (s_.1 ≠ gb235) ∧ (gb239 ≠ s_.1) ∧ (s_.1 ≠ gb239) ∧ (s_.2 ≠ s_.1) ∧ (s_.1 ≠ s_.2) ∧ (w.heap.size ≤ s_.2) ∧ (w.heap.size ≤ s_.2) ∧ (gb213 ≠ s_.2) ∧ (s_.2 ≠ gb213) ∧ (gb214 ≠ s_.2) ∧ (s_.2 ≠ gb214) ∧ (gb234 ≠ s_.2) ∧ (s_.2 ≠ gb234) ∧ (gb235 ≠ s_.2) ∧ (s_.2 ≠ gb235) ∧ (gb239 ≠ s_.2) ∧ (s_.2 ≠ gb239) ∧ (Below w.heap.size w w')) ?_ ?_
         rotate_left
         ·intro hJ2_8_9
          refine join_ (σ := Unit) 5 #[true, true, true, true, true, true, true, true, false, false, false, false, false] (fun s_ => [(32, .agg #[.int .i64 t240, .int .i64 t241, .int .i64 t242, .int .i64 t243, .int .i64 t244, .int .i64 t245]), (33, .tuple #[.agg #[.int .i64 t246, .int .i64 t247, .int .i64 t248, .int .i64 t249], .agg #[.int .i64 t250, .int .i64 t251, .int .i64 t252, .int .i64 t253], .bool t254]), (29, .tuple #[.agg #[.int .i64 t246, .int .i64 t247, .int .i64 t248, .int .i64 t249], .agg #[.int .i64 t250, .int .i64 t251, .int .i64 t252, .int .i64 t253], .bool t254]), (34, .agg #[.int .i64 t246, .int .i64 t247, .int .i64 t248, .int .i64 t249]), (35, .agg #[.int .i64 t250, .int .i64 t251, .int .i64 t252, .int .i64 t253]), (36, .bool t254)]) (fun s_ w' => (w'.cell? ⟨gb239, 0, none⟩ = some (.slice Ao50 t236.length co50) ∧ w'.cell? ⟨gb214, 0, none⟩ = some (.int .i64 a1_0) ∧ w'.cell? ⟨gb214, 1, none⟩ = some (.int .i64 a1_1) ∧ w'.cell? ⟨gb214, 2, none⟩ = some (.int .i64 a1_2) ∧ w'.cell? ⟨gb214, 3, none⟩ = some (.int .i64 a1_3) ∧ w'.cell? ⟨gb214, 4, none⟩ = some (.int .i64 a1_4) ∧ w'.cell? ⟨gb214, 5, none⟩ = some (.int .i64 a1_5)) ∧ (Kd.S (Kd.slice 5 (Kd.int .u8)) 65 w' w.heap.size (fun k_ => some k_ ≠ (.slice Ao50 t236.length co50 : Value).ownBlock) v217 t216) ∧ (Kd.S (Kd.slice 5 (Kd.int .u8)) 65 w' w.heap.size (fun k_ => some k_ ≠ (v217 : Value).ownBlock) (.slice Ao50 t236.length co50) t236) ∧ (w'.heap[gb213]? = some (.cells #[.slice A0_0 l0_0.length c0_0] 24 (0, 0))) ∧ (w'.heap[gb214]? = some (.cells #[.int .i64 a1_0, .int .i64 a1_1, .int .i64 a1_2, .int .i64 a1_3, .int .i64 a1_4, .int .i64 a1_5] 28 (0, 0))) ∧ (w'.heap[gb234]? = some (.cells #[.int .i64 t225, .int .i64 t226, .int .i64 t227, .int .i64 t228] 34 (0, 0))) ∧ (w'.heap[gb235]? = some (.cells #[.int .i64 t229, .int .i64 t230, .int .i64 t231, .int .i64 t232] 34 (0, 0))) ∧ (w'.heap[gb239]? = some (.cells #[.slice Ao50 t236.length co50] 32 (0, 0))) ∧ (Below w.heap.size w w')) ?_ ?_
          rotate_left
          ·intro hJ2_3
           refine join_ (σ := Nat) 9 #[true, true, true, false, false, false, false, false, true, false, false, false, false] (fun s_ => [(32, .agg #[.int .i64 t240, .int .i64 t241, .int .i64 t242, .int .i64 t243, .int .i64 t244, .int .i64 t245]), (10, .pointer (some ⟨s_, 0, none⟩))]) (fun s_ w' => (w'.cell? ⟨gb239, 0, none⟩ = some (.slice Ao50 t236.length co50) ∧ w'.cell? ⟨gb214, 0, none⟩ = some (.int .i64 a1_0) ∧ w'.cell? ⟨gb214, 1, none⟩ = some (.int .i64 a1_1) ∧ w'.cell? ⟨gb214, 2, none⟩ = some (.int .i64 a1_2) ∧ w'.cell? ⟨gb214, 3, none⟩ = some (.int .i64 a1_3) ∧ w'.cell? ⟨gb214, 4, none⟩ = some (.int .i64 a1_4) ∧ w'.cell? ⟨gb214, 5, none⟩ = some (.int .i64 a1_5)) ∧ (Kd.S (Kd.slice 5 (Kd.int .u8)) 65 w' w.heap.size (fun k_ => some k_ ≠ (.slice Ao50 t236.length co50 : Value).ownBlock) v217 t216) ∧ (Kd.S (Kd.slice 5 (Kd.int .u8)) 65 w' w.heap.size (fun k_ => some k_ ≠ (v217 : Value).ownBlock) (.slice Ao50 t236.length co50) t236) ∧ (w'.heap[gb213]? = some (.cells #[.slice A0_0 l0_0.length c0_0] 24 (0, 0))) ∧ (w'.heap[gb214]? = some (.cells #[.int .i64 a1_0, .int .i64 a1_1, .int .i64 a1_2, .int .i64 a1_3, .int .i64 a1_4, .int .i64 a1_5] 28 (0, 0))) ∧ (w'.heap[gb234]? = some (.cells #[.int .i64 t225, .int .i64 t226, .int .i64 t227, .int .i64 t228] 34 (0, 0))) ∧ (w'.heap[gb235]? = some (.cells #[.int .i64 t229, .int .i64 t230, .int .i64 t231, .int .i64 t232] 34 (0, 0))) ∧ (w'.heap[gb239]? = some (.cells #[.slice Ao50 t236.length co50] 32 (0, 0))) ∧ (w'.heap[s_]? = some (.cells #[.int .i64 0, .int .i64 0, .int .i64 0, .int .i64 0] 34 (0, 0))) ∧ (w.heap.size ≤ s_) ∧ (w.heap.size ≤ s_) ∧ (gb213 ≠ s_) ∧ (s_ ≠ gb213) ∧ (gb214 ≠ s_) ∧ (s_ ≠ gb214) ∧ (gb234 ≠ s_) ∧ (s_ ≠ gb234) ∧ (gb235 ≠ s_) ∧ (s_ ≠ gb235) ∧ (gb239 ≠ s_) ∧ (s_ ≠ gb239) ∧ (Below w.heap.size w w')) ?_ ?_
           rotate_left
           ·intro hJ2_8
            refine join_ (σ := Nat) 9 #[true, true, true, false, false, false, false, false, false, true, false, false, false] (fun s_ => [(32, .agg #[.int .i64 t240, .int .i64 t241, .int .i64 t242, .int .i64 t243, .int .i64 t244, .int .i64 t245]), (11, .pointer (some ⟨s_, 0, none⟩))]) (fun s_ w' => (w'.cell? ⟨gb239, 0, none⟩ = some (.slice Ao50 t236.length co50) ∧ w'.cell? ⟨gb214, 0, none⟩ = some (.int .i64 a1_0) ∧ w'.cell? ⟨gb214, 1, none⟩ = some (.int .i64 a1_1) ∧ w'.cell? ⟨gb214, 2, none⟩ = some (.int .i64 a1_2) ∧ w'.cell? ⟨gb214, 3, none⟩ = some (.int .i64 a1_3) ∧ w'.cell? ⟨gb214, 4, none⟩ = some (.int .i64 a1_4) ∧ w'.cell? ⟨gb214, 5, none⟩ = some (.int .i64 a1_5)) ∧ (Kd.S (Kd.slice 5 (Kd.int .u8)) 65 w' w.heap.size (fun k_ => some k_ ≠ (.slice Ao50 t236.length co50 : Value).ownBlock) v217 t216) ∧ (Kd.S (Kd.slice 5 (Kd.int .u8)) 65 w' w.heap.size (fun k_ => some k_ ≠ (v217 : Value).ownBlock) (.slice Ao50 t236.length co50) t236) ∧ (w'.heap[gb213]? = some (.cells #[.slice A0_0 l0_0.length c0_0] 24 (0, 0))) ∧ (w'.heap[gb214]? = some (.cells #[.int .i64 a1_0, .int .i64 a1_1, .int .i64 a1_2, .int .i64 a1_3, .int .i64 a1_4, .int .i64 a1_5] 28 (0, 0))) ∧ (w'.heap[gb234]? = some (.cells #[.int .i64 t225, .int .i64 t226, .int .i64 t227, .int .i64 t228] 34 (0, 0))) ∧ (w'.heap[gb235]? = some (.cells #[.int .i64 t229, .int .i64 t230, .int .i64 t231, .int .i64 t232] 34 (0, 0))) ∧ (w'.heap[gb239]? = some (.cells #[.slice Ao50 t236.length co50] 32 (0, 0))) ∧ (w'.heap[s_]? = some (.cells #[.int .i64 0, .int .i64 0, .int .i64 0, .int .i64 0] 34 (0, 0))) ∧ (w.heap.size ≤ s_) ∧ (w.heap.size ≤ s_) ∧ (gb213 ≠ s_) ∧ (s_ ≠ gb213) ∧ (gb214 ≠ s_) ∧ (s_ ≠ gb214) ∧ (gb234 ≠ s_) ∧ (s_ ≠ gb234) ∧ (gb235 ≠ s_) ∧ (s_ ≠ gb235) ∧ (gb239 ≠ s_) ∧ (s_ ≠ gb239) ∧ (Below w.heap.size w w')) ?_ ?_
            rotate_left
            ·intro hJ2_9
             refine join_ (σ := Nat × Nat) 9 #[true, true, false, false, false, false, false, false, true, true, false, false, false] (fun s_ => [(10, .pointer (some ⟨s_.1, 0, none⟩)), (11, .pointer (some ⟨s_.2, 0, none⟩))]) (fun s_ w' => (w'.cell? ⟨gb239, 0, none⟩ = some (.slice Ao50 t236.length co50) ∧ w'.cell? ⟨gb214, 0, none⟩ = some (.int .i64 a1_0) ∧ w'.cell? ⟨gb214, 1, none⟩ = some (.int .i64 a1_1) ∧ w'.cell? ⟨gb214, 2, none⟩ = some (.int .i64 a1_2) ∧ w'.cell? ⟨gb214, 3, none⟩ = some (.int .i64 a1_3) ∧ w'.cell? ⟨gb214, 4, none⟩ = some (.int .i64 a1_4) ∧ w'.cell? ⟨gb214, 5, none⟩ = some (.int .i64 a1_5)) ∧ (Kd.S (Kd.slice 5 (Kd.int .u8)) 65 w' w.heap.size (fun k_ => some k_ ≠ (.slice Ao50 t236.length co50 : Value).ownBlock) v217 t216) ∧ (Kd.S (Kd.slice 5 (Kd.int .u8)) 65 w' w.heap.size (fun k_ => some k_ ≠ (v217 : Value).ownBlock) (.slice Ao50 t236.length co50) t236) ∧ (w'.heap[gb213]? = some (.cells #[.slice A0_0 l0_0.length c0_0] 24 (0, 0))) ∧ (w'.heap[gb214]? = some (.cells #[.int .i64 a1_0, .int .i64 a1_1, .int .i64 a1_2, .int .i64 a1_3, .int .i64 a1_4, .int .i64 a1_5] 28 (0, 0))) ∧ (w'.heap[gb234]? = some (.cells #[.int .i64 t225, .int .i64 t226, .int .i64 t227, .int .i64 t228] 34 (0, 0))) ∧ (w'.heap[gb235]? = some (.cells #[.int .i64 t229, .int .i64 t230, .int .i64 t231, .int .i64 t232] 34 (0, 0))) ∧ (w'.heap[gb239]? = some (.cells #[.slice Ao50 t236.length co50] 32 (0, 0))) ∧ (w'.heap[s_.1]? = some (.cells #[.int .i64 0, .int .i64 0, .int .i64 0, .int .i64 0] 34 (0, 0))) ∧ (w'.heap[s_.2]? = some (.cells #[.int .i64 0, .int .i64 0, .int .i64 0, .int .i64 0] 34 (0, 0))) ∧ (w.heap.size ≤ s_.1) ∧ (w.heap.size ≤ s_.1) ∧ (gb213 ≠ s_.1) ∧ (s_.1 ≠ gb213) ∧ (gb214 ≠ s_.1) ∧ (s_.1 ≠ gb214) ∧ (gb234 ≠ s_.1) ∧ (s_.1 ≠ gb234) ∧ (gb235 ≠ s_.1) ∧ (s_.1 ≠ gb235) ∧ (gb239 ≠ s_.1) ∧ (s_.1 ≠ gb239) ∧ (s_.2 ≠ s_.1) ∧ (s_.1 ≠ s_.2) ∧ (w.heap.size ≤ s_.2) ∧ (w.heap.size ≤ s_.2) ∧ (gb213 ≠ s_.2) ∧ (s_.2 ≠ gb213) ∧ (gb214 ≠ s_.2) ∧ (s_.2 ≠ gb214) ∧ (gb234 ≠ s_.2) ∧ (s_.2 ≠ gb234) ∧ (gb235 ≠ s_.2) ∧ (s_.2 ≠ gb235) ∧ (gb239 ≠ s_.2) ∧ (s_.2 ≠ gb239) ∧ (Below w.heap.size w w')) ?_ ?_
             rotate_left
             ·intro hJ8_9
              refine join_ (σ := Unit) 10 #[true, true, true, false, false, false, false, false, false, false, false, false, false] (fun s_ => [(32, .agg #[.int .i64 t240, .int .i64 t241, .int .i64 t242, .int .i64 t243, .int .i64 t244, .int .i64 t245])]) (fun s_ w' => (w'.cell? ⟨gb239, 0, none⟩ = some (.slice Ao50 t236.length co50) ∧ w'.cell? ⟨gb214, 0, none⟩ = some (.int .i64 a1_0) ∧ w'.cell? ⟨gb214, 1, none⟩ = some (.int .i64 a1_1) ∧ w'.cell? ⟨gb214, 2, none⟩ = some (.int .i64 a1_2) ∧ w'.cell? ⟨gb214, 3, none⟩ = some (.int .i64 a1_3) ∧ w'.cell? ⟨gb214, 4, none⟩ = some (.int .i64 a1_4) ∧ w'.cell? ⟨gb214, 5, none⟩ = some (.int .i64 a1_5)) ∧ (Kd.S (Kd.slice 5 (Kd.int .u8)) 65 w' w.heap.size (fun k_ => some k_ ≠ (.slice Ao50 t236.length co50 : Value).ownBlock) v217 t216) ∧ (Kd.S (Kd.slice 5 (Kd.int .u8)) 65 w' w.heap.size (fun k_ => some k_ ≠ (v217 : Value).ownBlock) (.slice Ao50 t236.length co50) t236) ∧ (w'.heap[gb213]? = some (.cells #[.slice A0_0 l0_0.length c0_0] 24 (0, 0))) ∧ (w'.heap[gb214]? = some (.cells #[.int .i64 a1_0, .int .i64 a1_1, .int .i64 a1_2, .int .i64 a1_3, .int .i64 a1_4, .int .i64 a1_5] 28 (0, 0))) ∧ (w'.heap[gb234]? = some (.cells #[.int .i64 t225, .int .i64 t226, .int .i64 t227, .int .i64 t228] 34 (0, 0))) ∧ (w'.heap[gb235]? = some (.cells #[.int .i64 t229, .int .i64 t230, .int .i64 t231, .int .i64 t232] 34 (0, 0))) ∧ (w'.heap[gb239]? = some (.cells #[.slice Ao50 t236.length co50] 32 (0, 0))) ∧ (Below w.heap.size w w')) ?_ ?_
              rotate_left
              ·intro hJ2
               refine join_ (σ := Nat) 10 #[true, true, false, false, false, false, false, false, true, false, false, false, false] (fun s_ => [(10, .pointer (some ⟨s_, 0, none⟩))]) (fun s_ w' => (w'.cell? ⟨gb239, 0, none⟩ = some (.slice Ao50 t236.length co50) ∧ w'.cell? ⟨gb214, 0, none⟩ = some (.int .i64 a1_0) ∧ w'.cell? ⟨gb214, 1, none⟩ = some (.int .i64 a1_1) ∧ w'.cell? ⟨gb214, 2, none⟩ = some (.int .i64 a1_2) ∧ w'.cell? ⟨gb214, 3, none⟩ = some (.int .i64 a1_3) ∧ w'.cell? ⟨gb214, 4, none⟩ = some (.int .i64 a1_4) ∧ w'.cell? ⟨gb214, 5, none⟩ = some (.int .i64 a1_5)) ∧ (Kd.S (Kd.slice 5 (Kd.int .u8)) 65 w' w.heap.size (fun k_ => some k_ ≠ (.slice Ao50 t236.length co50 : Value).ownBlock) v217 t216) ∧ (Kd.S (Kd.slice 5 (Kd.int .u8)) 65 w' w.heap.size (fun k_ => some k_ ≠ (v217 : Value).ownBlock) (.slice Ao50 t236.length co50) t236) ∧ (w'.heap[gb213]? = some (.cells #[.slice A0_0 l0_0.length c0_0] 24 (0, 0))) ∧ (w'.heap[gb214]? = some (.cells #[.int .i64 a1_0, .int .i64 a1_1, .int .i64 a1_2, .int .i64 a1_3, .int .i64 a1_4, .int .i64 a1_5] 28 (0, 0))) ∧ (w'.heap[gb234]? = some (.cells #[.int .i64 t225, .int .i64 t226, .int .i64 t227, .int .i64 t228] 34 (0, 0))) ∧ (w'.heap[gb235]? = some (.cells #[.int .i64 t229, .int .i64 t230, .int .i64 t231, .int .i64 t232] 34 (0, 0))) ∧ (w'.heap[gb239]? = some (.cells #[.slice Ao50 t236.length co50] 32 (0, 0))) ∧ (w'.heap[s_]? = some (.cells #[.int .i64 0, .int .i64 0, .int .i64 0, .int .i64 0] 34 (0, 0))) ∧ (w.heap.size ≤ s_) ∧ (w.heap.size ≤ s_) ∧ (gb213 ≠ s_) ∧ (s_ ≠ gb213) ∧ (gb214 ≠ s_) ∧ (s_ ≠ gb214) ∧ (gb234 ≠ s_) ∧ (s_ ≠ gb234) ∧ (gb235 ≠ s_) ∧ (s_ ≠ gb235) ∧ (gb239 ≠ s_) ∧ (s_ ≠ gb239) ∧ (Below w.heap.size w w')) ?_ ?_
               rotate_left
               ·intro hJ8
                refine join_ (σ := Nat) 10 #[true, true, false, false, false, false, false, false, false, true, false, false, false] (fun s_ => [(11, .pointer (some ⟨s_, 0, none⟩))]) (fun s_ w' => (w'.cell? ⟨gb239, 0, none⟩ = some (.slice Ao50 t236.length co50) ∧ w'.cell? ⟨gb214, 0, none⟩ = some (.int .i64 a1_0) ∧ w'.cell? ⟨gb214, 1, none⟩ = some (.int .i64 a1_1) ∧ w'.cell? ⟨gb214, 2, none⟩ = some (.int .i64 a1_2) ∧ w'.cell? ⟨gb214, 3, none⟩ = some (.int .i64 a1_3) ∧ w'.cell? ⟨gb214, 4, none⟩ = some (.int .i64 a1_4) ∧ w'.cell? ⟨gb214, 5, none⟩ = some (.int .i64 a1_5)) ∧ (Kd.S (Kd.slice 5 (Kd.int .u8)) 65 w' w.heap.size (fun k_ => some k_ ≠ (.slice Ao50 t236.length co50 : Value).ownBlock) v217 t216) ∧ (Kd.S (Kd.slice 5 (Kd.int .u8)) 65 w' w.heap.size (fun k_ => some k_ ≠ (v217 : Value).ownBlock) (.slice Ao50 t236.length co50) t236) ∧ (w'.heap[gb213]? = some (.cells #[.slice A0_0 l0_0.length c0_0] 24 (0, 0))) ∧ (w'.heap[gb214]? = some (.cells #[.int .i64 a1_0, .int .i64 a1_1, .int .i64 a1_2, .int .i64 a1_3, .int .i64 a1_4, .int .i64 a1_5] 28 (0, 0))) ∧ (w'.heap[gb234]? = some (.cells #[.int .i64 t225, .int .i64 t226, .int .i64 t227, .int .i64 t228] 34 (0, 0))) ∧ (w'.heap[gb235]? = some (.cells #[.int .i64 t229, .int .i64 t230, .int .i64 t231, .int .i64 t232] 34 (0, 0))) ∧ (w'.heap[gb239]? = some (.cells #[.slice Ao50 t236.length co50] 32 (0, 0))) ∧ (w'.heap[s_]? = some (.cells #[.int .i64 0, .int .i64 0, .int .i64 0, .int .i64 0] 34 (0, 0))) ∧ (w.heap.size ≤ s_) ∧ (w.heap.size ≤ s_) ∧ (gb213 ≠ s_) ∧ (s_ ≠ gb213) ∧ (gb214 ≠ s_) ∧ (s_ ≠ gb214) ∧ (gb234 ≠ s_) ∧ (s_ ≠ gb234) ∧ (gb235 ≠ s_) ∧ (s_ ≠ gb235) ∧ (gb239 ≠ s_) ∧ (s_ ≠ gb239) ∧ (Below w.heap.size w w')) ?_ ?_
                rotate_left
                ·intro hJ9
                 refine three_ (i := 2) (j := 8) (k := 9) (Ni := some 32) (Nj := some 10) (Nk := some 11) #[true, true, true, false, false, false, false, false, false, false, false, false, false] #[true, true, false, false, false, false, false, false, true, false, false, false, false] #[true, true, false, false, false, false, false, false, false, true, false, false, false] rfl rfl rfl rfl rfl rfl (three_of HT_.out (by kernel_rfl)) (by decide) (by decide) (by decide) (fun K hK => ?_) (fun K hK => ?_) (fun K hK => ?_)
                 ·skip
                  refine goes_ Try.func17 (by kernel_rfl) rfl #[.agg #[.int .i64 a1_0, .int .i64 a1_1, .int .i64 a1_2, .int .i64 a1_3, .int .i64 a1_4, .int .i64 a1_5]] (by rfl) rfl rfl (by (try simp only [List.map_toArray, List.map_cons, List.map_nil]); first | done | rfl | (simp only [List.length_drop, List.length_take]; rfl)) ?_
                  with_reducible refine (laws_toRing.calls a1_0 a1_1 a1_2 a1_3 a1_4 a1_5 t240 t241 t242 t243 t244 t245 _ A14.out).mono ?_
                  rintro e w58 ⟨rfl, hb⟩
                  refine ⟨_, rfl, ?_⟩
                  replace HO218 := zsb HO218 hb
                  replace HO238 := zsb HO238 hb
                  replace BK213 := zb0 BK213 hb
                  replace BK214 := zb0 BK214 hb
                  replace BK234 := zb0 BK234 hb
                  replace BK235 := zb0 BK235 hb
                  replace BK239 := zb0 BK239 hb
                  replace HB := zhs HB hb
                  (try clear hb)
                  (try clear hb2)
                  (try clear hk)
                  (try clear hi)
                  refine hK.out _ _ ⟨zc0 BK239 0 rfl, zc0 BK214 0 rfl, zc0 BK214 1 rfl, zc0 BK214 2 rfl, zc0 BK214 3 rfl, zc0 BK214 4 rfl, zc0 BK214 5 rfl⟩ (fun hHeld => ?_)
                  clear hK K
                  refine norm_ (a' := ?_) ?_ ?_
                  rotate_left
                  ·show Act.put _ (some 32) _ = _
                   simp only [Act.put, zp1, zp2, zp3, i64_w, i32_w]
                   rfl
                  exact norm_ (by simp only [putAll, Act.put, zp1, zp2, zp3]; first | done | rfl) (hJ2 () _ ⟨hHeld, (zs0 HO218), (zs0 HO238), (zk0 BK213), (zk0 BK214), (zk0 BK234), (zk0 BK235), (zk0 BK239), (zh0 HB)⟩)
                 ·skip
                  refine box_step ?hg (N := 10) ?hd (cs := #[.int .i64 0, .int .i64 0, .int .i64 0, .int .i64 0]) (t := 34) ?hr ?_; (case hd => rfl); (case hg => rfl); (case hr => first | (go_simp; done) | (go_simp; rfl))
                  intro gb255 hg w58 hbox hb
                  have BK255 := Aside0.mk (hbox)
                  have GW255 := zge HB hg
                  have GE255 := zge HB hg
                  have NB213_255 := znl BK213 hg
                  have NB255_213 := znr BK213 hg
                  have NB214_255 := znl BK214 hg
                  have NB255_214 := znr BK214 hg
                  have NB234_255 := znl BK234 hg
                  have NB255_234 := znr BK234 hg
                  have NB235_255 := znl BK235 hg
                  have NB255_235 := znr BK235 hg
                  have NB239_255 := znl BK239 hg
                  have NB255_239 := znr BK239 hg
                  replace HO218 := zsb HO218 hb
                  replace HO238 := zsb HO238 hb
                  replace BK213 := zb0 BK213 hb
                  replace BK214 := zb0 BK214 hb
                  replace BK234 := zb0 BK234 hb
                  replace BK235 := zb0 BK235 hb
                  replace BK239 := zb0 BK239 hb
                  replace HB := zhs HB hb
                  clear hb hbox hg
                  refine hK.out _ _ ⟨zc0 BK239 0 rfl, zc0 BK214 0 rfl, zc0 BK214 1 rfl, zc0 BK214 2 rfl, zc0 BK214 3 rfl, zc0 BK214 4 rfl, zc0 BK214 5 rfl⟩ (fun hHeld => ?_)
                  clear hK K
                  refine norm_ (a' := ?_) ?_ ?_
                  rotate_left
                  ·show Act.put _ (some 10) _ = _
                   simp only [Act.put, zp1, zp2, zp3, i64_w, i32_w]
                   rfl
                  exact norm_ (by simp only [putAll, Act.put, zp1, zp2, zp3]; first | done | rfl) (hJ8 (gb255) _ ⟨hHeld, (zs0 HO218), (zs0 HO238), (zk0 BK213), (zk0 BK214), (zk0 BK234), (zk0 BK235), (zk0 BK239), (zk0 BK255), GW255.out, GE255.out, NB213_255.out, NB255_213.out, NB214_255.out, NB255_214.out, NB234_255.out, NB255_234.out, NB235_255.out, NB255_235.out, NB239_255.out, NB255_239.out, (zh0 HB)⟩)
                 ·skip
                  refine box_step ?hg (N := 11) ?hd (cs := #[.int .i64 0, .int .i64 0, .int .i64 0, .int .i64 0]) (t := 34) ?hr ?_; (case hd => rfl); (case hg => rfl); (case hr => first | (go_simp; done) | (go_simp; rfl))
                  intro gb256 hg w58 hbox hb
                  have BK256 := Aside0.mk (hbox)
                  have GW256 := zge HB hg
                  have GE256 := zge HB hg
                  have NB213_256 := znl BK213 hg
                  have NB256_213 := znr BK213 hg
                  have NB214_256 := znl BK214 hg
                  have NB256_214 := znr BK214 hg
                  have NB234_256 := znl BK234 hg
                  have NB256_234 := znr BK234 hg
                  have NB235_256 := znl BK235 hg
                  have NB256_235 := znr BK235 hg
                  have NB239_256 := znl BK239 hg
                  have NB256_239 := znr BK239 hg
                  replace HO218 := zsb HO218 hb
                  replace HO238 := zsb HO238 hb
                  replace BK213 := zb0 BK213 hb
                  replace BK214 := zb0 BK214 hb
                  replace BK234 := zb0 BK234 hb
                  replace BK235 := zb0 BK235 hb
                  replace BK239 := zb0 BK239 hb
                  replace HB := zhs HB hb
                  clear hb hbox hg
                  refine hK.out _ _ ⟨zc0 BK239 0 rfl, zc0 BK214 0 rfl, zc0 BK214 1 rfl, zc0 BK214 2 rfl, zc0 BK214 3 rfl, zc0 BK214 4 rfl, zc0 BK214 5 rfl⟩ (fun hHeld => ?_)
                  clear hK K
                  refine norm_ (a' := ?_) ?_ ?_
                  rotate_left
                  ·show Act.put _ (some 11) _ = _
                   simp only [Act.put, zp1, zp2, zp3, i64_w, i32_w]
                   rfl
                  exact norm_ (by simp only [putAll, Act.put, zp1, zp2, zp3]; first | done | rfl) (hJ9 (gb256) _ ⟨hHeld, (zs0 HO218), (zs0 HO238), (zk0 BK213), (zk0 BK214), (zk0 BK234), (zk0 BK235), (zk0 BK239), (zk0 BK256), GW256.out, GE256.out, NB213_256.out, NB256_213.out, NB214_256.out, NB256_214.out, NB234_256.out, NB256_234.out, NB235_256.out, NB256_235.out, NB239_256.out, NB256_239.out, (zh0 HB)⟩)
                ·skip
                 rintro gb256 w59 ⟨hS_, h0_, h1_, h2_, h3_, h4_, h5_, h6_, h7_, h8_, h9_, h10_, h11_, h12_, h13_, h14_, h15_, h16_, h17_, h18_, h19_, h20_⟩
                 try dsimp only at hS_ h0_ h1_ h2_ h3_ h4_ h5_ h6_ h7_ h8_ h9_ h10_ h11_ h12_ h13_ h14_ h15_ h16_ h17_ h18_ h19_ h20_
                 have BK256 := Aside0.mk h7_
                 have GW256 := Aside0.mk h8_
                 have GE256 := Aside0.mk h9_
                 have NB213_256 := Aside0.mk h10_
                 have NB256_213 := Aside0.mk h11_
                 have NB214_256 := Aside0.mk h12_
                 have NB256_214 := Aside0.mk h13_
                 have NB234_256 := Aside0.mk h14_
                 have NB256_234 := Aside0.mk h15_
                 have NB235_256 := Aside0.mk h16_
                 have NB256_235 := Aside0.mk h17_
                 have NB239_256 := Aside0.mk h18_
                 have NB256_239 := Aside0.mk h19_
                 replace HO218 := Aside0.mk h0_
                 replace HO238 := Aside0.mk h1_
                 replace BK213 := Aside0.mk h2_
                 replace BK214 := Aside0.mk h3_
                 replace BK234 := Aside0.mk h4_
                 replace BK235 := Aside0.mk h5_
                 replace BK239 := Aside0.mk h6_
                 replace HB := Aside0.mk h20_
                 clear h0_ h1_ h2_ h3_ h4_ h5_ h6_ h7_ h8_ h9_ h10_ h11_ h12_ h13_ h14_ h15_ h16_ h17_ h18_ h19_ h20_
                 have hHeld := hS_
                 refine norm_ (a' := ?_) ?_ ?_
                 rotate_left
                 ·simp only [putAll, Act.put, zp1, zp2, zp3]
                  rfl
                 refine two_ (i := 2) (j := 8) (Ni := some 32) (Nj := some 10) #[true, true, true, false, false, false, false, false, false, true, false, false, false] #[true, true, false, false, false, false, false, false, true, true, false, false, false] rfl rfl rfl rfl (two_of HT_.out (by kernel_rfl)) (by decide) (by decide) (fun K hK => ?_) (fun K hK => ?_)
                 ·skip
                  refine goes_ Try.func17 (by kernel_rfl) rfl #[.agg #[.int .i64 a1_0, .int .i64 a1_1, .int .i64 a1_2, .int .i64 a1_3, .int .i64 a1_4, .int .i64 a1_5]] (by rfl) rfl rfl (by (try simp only [List.map_toArray, List.map_cons, List.map_nil]); first | done | rfl | (simp only [List.length_drop, List.length_take]; rfl)) ?_
                  with_reducible refine (laws_toRing.calls a1_0 a1_1 a1_2 a1_3 a1_4 a1_5 t240 t241 t242 t243 t244 t245 _ A14.out).mono ?_
                  rintro e w60 ⟨rfl, hb⟩
                  refine ⟨_, rfl, ?_⟩
                  replace HO218 := zsb HO218 hb
                  replace HO238 := zsb HO238 hb
                  replace BK213 := zb0 BK213 hb
                  replace BK214 := zb0 BK214 hb
                  replace BK234 := zb0 BK234 hb
                  replace BK235 := zb0 BK235 hb
                  replace BK239 := zb0 BK239 hb
                  replace BK256 := zb0 BK256 hb
                  replace HB := zhs HB hb
                  (try clear hb)
                  (try clear hb2)
                  (try clear hk)
                  (try clear hi)
                  refine hK.out _ _ ⟨zc0 BK239 0 rfl, zc0 BK214 0 rfl, zc0 BK214 1 rfl, zc0 BK214 2 rfl, zc0 BK214 3 rfl, zc0 BK214 4 rfl, zc0 BK214 5 rfl⟩ (fun hHeld => ?_)
                  clear hK K
                  refine norm_ (a' := ?_) ?_ ?_
                  rotate_left
                  ·show Act.put _ (some 32) _ = _
                   simp only [Act.put, zp1, zp2, zp3, i64_w, i32_w]
                   rfl
                  exact norm_ (by simp only [putAll, Act.put, zp1, zp2, zp3]; first | done | rfl) (hJ2_9 (gb256) _ ⟨hHeld, (zs0 HO218), (zs0 HO238), (zk0 BK213), (zk0 BK214), (zk0 BK234), (zk0 BK235), (zk0 BK239), (zk0 BK256), GW256.out, GE256.out, NB213_256.out, NB256_213.out, NB214_256.out, NB256_214.out, NB234_256.out, NB256_234.out, NB235_256.out, NB256_235.out, NB239_256.out, NB256_239.out, (zh0 HB)⟩)
                 ·skip
                  refine box_step ?hg (N := 10) ?hd (cs := #[.int .i64 0, .int .i64 0, .int .i64 0, .int .i64 0]) (t := 34) ?hr ?_; (case hd => rfl); (case hg => rfl); (case hr => first | (go_simp; done) | (go_simp; rfl))
                  intro gb255 hg w60 hbox hb
                  have BK255 := Aside0.mk (hbox)
                  have GW255 := zge HB hg
                  have GE255 := zge HB hg
                  have NB213_255 := znl BK213 hg
                  have NB255_213 := znr BK213 hg
                  have NB214_255 := znl BK214 hg
                  have NB255_214 := znr BK214 hg
                  have NB234_255 := znl BK234 hg
                  have NB255_234 := znr BK234 hg
                  have NB235_255 := znl BK235 hg
                  have NB255_235 := znr BK235 hg
                  have NB239_255 := znl BK239 hg
                  have NB255_239 := znr BK239 hg
                  have NB256_255 := znl BK256 hg
                  have NB255_256 := znr BK256 hg
                  replace HO218 := zsb HO218 hb
                  replace HO238 := zsb HO238 hb
                  replace BK213 := zb0 BK213 hb
                  replace BK214 := zb0 BK214 hb
                  replace BK234 := zb0 BK234 hb
                  replace BK235 := zb0 BK235 hb
                  replace BK239 := zb0 BK239 hb
                  replace BK256 := zb0 BK256 hb
                  replace HB := zhs HB hb
                  clear hb hbox hg
                  refine hK.out _ _ ⟨zc0 BK239 0 rfl, zc0 BK214 0 rfl, zc0 BK214 1 rfl, zc0 BK214 2 rfl, zc0 BK214 3 rfl, zc0 BK214 4 rfl, zc0 BK214 5 rfl⟩ (fun hHeld => ?_)
                  clear hK K
                  refine norm_ (a' := ?_) ?_ ?_
                  rotate_left
                  ·show Act.put _ (some 10) _ = _
                   simp only [Act.put, zp1, zp2, zp3, i64_w, i32_w]
                   rfl
                  exact norm_ (by simp only [putAll, Act.put, zp1, zp2, zp3]; first | done | rfl) (hJ8_9 (gb255, gb256) _ ⟨hHeld, (zs0 HO218), (zs0 HO238), (zk0 BK213), (zk0 BK214), (zk0 BK234), (zk0 BK235), (zk0 BK239), (zk0 BK255), (zk0 BK256), GW255.out, GE255.out, NB213_255.out, NB255_213.out, NB214_255.out, NB255_214.out, NB234_255.out, NB255_234.out, NB235_255.out, NB255_235.out, NB239_255.out, NB255_239.out, NB256_255.out, NB255_256.out, GW256.out, GE256.out, NB213_256.out, NB256_213.out, NB214_256.out, NB256_214.out, NB234_256.out, NB256_234.out, NB235_256.out, NB256_235.out, NB239_256.out, NB256_239.out, (zh0 HB)⟩)
               ·skip
                rintro gb255 w59 ⟨hS_, h0_, h1_, h2_, h3_, h4_, h5_, h6_, h7_, h8_, h9_, h10_, h11_, h12_, h13_, h14_, h15_, h16_, h17_, h18_, h19_, h20_⟩
                try dsimp only at hS_ h0_ h1_ h2_ h3_ h4_ h5_ h6_ h7_ h8_ h9_ h10_ h11_ h12_ h13_ h14_ h15_ h16_ h17_ h18_ h19_ h20_
                have BK255 := Aside0.mk h7_
                have GW255 := Aside0.mk h8_
                have GE255 := Aside0.mk h9_
                have NB213_255 := Aside0.mk h10_
                have NB255_213 := Aside0.mk h11_
                have NB214_255 := Aside0.mk h12_
                have NB255_214 := Aside0.mk h13_
                have NB234_255 := Aside0.mk h14_
                have NB255_234 := Aside0.mk h15_
                have NB235_255 := Aside0.mk h16_
                have NB255_235 := Aside0.mk h17_
                have NB239_255 := Aside0.mk h18_
                have NB255_239 := Aside0.mk h19_
                replace HO218 := Aside0.mk h0_
                replace HO238 := Aside0.mk h1_
                replace BK213 := Aside0.mk h2_
                replace BK214 := Aside0.mk h3_
                replace BK234 := Aside0.mk h4_
                replace BK235 := Aside0.mk h5_
                replace BK239 := Aside0.mk h6_
                replace HB := Aside0.mk h20_
                clear h0_ h1_ h2_ h3_ h4_ h5_ h6_ h7_ h8_ h9_ h10_ h11_ h12_ h13_ h14_ h15_ h16_ h17_ h18_ h19_ h20_
                have hHeld := hS_
                refine norm_ (a' := ?_) ?_ ?_
                rotate_left
                ·simp only [putAll, Act.put, zp1, zp2, zp3]
                 rfl
                refine two_ (i := 2) (j := 9) (Ni := some 32) (Nj := some 11) #[true, true, true, false, false, false, false, false, true, false, false, false, false] #[true, true, false, false, false, false, false, false, true, true, false, false, false] rfl rfl rfl rfl (two_of HT_.out (by kernel_rfl)) (by decide) (by decide) (fun K hK => ?_) (fun K hK => ?_)
                ·skip
                 refine goes_ Try.func17 (by kernel_rfl) rfl #[.agg #[.int .i64 a1_0, .int .i64 a1_1, .int .i64 a1_2, .int .i64 a1_3, .int .i64 a1_4, .int .i64 a1_5]] (by rfl) rfl rfl (by (try simp only [List.map_toArray, List.map_cons, List.map_nil]); first | done | rfl | (simp only [List.length_drop, List.length_take]; rfl)) ?_
                 with_reducible refine (laws_toRing.calls a1_0 a1_1 a1_2 a1_3 a1_4 a1_5 t240 t241 t242 t243 t244 t245 _ A14.out).mono ?_
                 rintro e w60 ⟨rfl, hb⟩
                 refine ⟨_, rfl, ?_⟩
                 replace HO218 := zsb HO218 hb
                 replace HO238 := zsb HO238 hb
                 replace BK213 := zb0 BK213 hb
                 replace BK214 := zb0 BK214 hb
                 replace BK234 := zb0 BK234 hb
                 replace BK235 := zb0 BK235 hb
                 replace BK239 := zb0 BK239 hb
                 replace BK255 := zb0 BK255 hb
                 replace HB := zhs HB hb
                 (try clear hb)
                 (try clear hb2)
                 (try clear hk)
                 (try clear hi)
                 refine hK.out _ _ ⟨zc0 BK239 0 rfl, zc0 BK214 0 rfl, zc0 BK214 1 rfl, zc0 BK214 2 rfl, zc0 BK214 3 rfl, zc0 BK214 4 rfl, zc0 BK214 5 rfl⟩ (fun hHeld => ?_)
                 clear hK K
                 refine norm_ (a' := ?_) ?_ ?_
                 rotate_left
                 ·show Act.put _ (some 32) _ = _
                  simp only [Act.put, zp1, zp2, zp3, i64_w, i32_w]
                  rfl
                 exact norm_ (by simp only [putAll, Act.put, zp1, zp2, zp3]; first | done | rfl) (hJ2_8 (gb255) _ ⟨hHeld, (zs0 HO218), (zs0 HO238), (zk0 BK213), (zk0 BK214), (zk0 BK234), (zk0 BK235), (zk0 BK239), (zk0 BK255), GW255.out, GE255.out, NB213_255.out, NB255_213.out, NB214_255.out, NB255_214.out, NB234_255.out, NB255_234.out, NB235_255.out, NB255_235.out, NB239_255.out, NB255_239.out, (zh0 HB)⟩)
                ·skip
                 refine box_step ?hg (N := 11) ?hd (cs := #[.int .i64 0, .int .i64 0, .int .i64 0, .int .i64 0]) (t := 34) ?hr ?_; (case hd => rfl); (case hg => rfl); (case hr => first | (go_simp; done) | (go_simp; rfl))
                 intro gb256 hg w60 hbox hb
                 have BK256 := Aside0.mk (hbox)
                 have GW256 := zge HB hg
                 have GE256 := zge HB hg
                 have NB213_256 := znl BK213 hg
                 have NB256_213 := znr BK213 hg
                 have NB214_256 := znl BK214 hg
                 have NB256_214 := znr BK214 hg
                 have NB234_256 := znl BK234 hg
                 have NB256_234 := znr BK234 hg
                 have NB235_256 := znl BK235 hg
                 have NB256_235 := znr BK235 hg
                 have NB239_256 := znl BK239 hg
                 have NB256_239 := znr BK239 hg
                 have NB255_256 := znl BK255 hg
                 have NB256_255 := znr BK255 hg
                 replace HO218 := zsb HO218 hb
                 replace HO238 := zsb HO238 hb
                 replace BK213 := zb0 BK213 hb
                 replace BK214 := zb0 BK214 hb
                 replace BK234 := zb0 BK234 hb
                 replace BK235 := zb0 BK235 hb
                 replace BK239 := zb0 BK239 hb
                 replace BK255 := zb0 BK255 hb
                 replace HB := zhs HB hb
                 clear hb hbox hg
                 refine hK.out _ _ ⟨zc0 BK239 0 rfl, zc0 BK214 0 rfl, zc0 BK214 1 rfl, zc0 BK214 2 rfl, zc0 BK214 3 rfl, zc0 BK214 4 rfl, zc0 BK214 5 rfl⟩ (fun hHeld => ?_)
                 clear hK K
                 refine norm_ (a' := ?_) ?_ ?_
                 rotate_left
                 ·show Act.put _ (some 11) _ = _
                  simp only [Act.put, zp1, zp2, zp3, i64_w, i32_w]
                  rfl
                 exact norm_ (by simp only [putAll, Act.put, zp1, zp2, zp3]; first | done | rfl) (hJ8_9 (gb255, gb256) _ ⟨hHeld, (zs0 HO218), (zs0 HO238), (zk0 BK213), (zk0 BK214), (zk0 BK234), (zk0 BK235), (zk0 BK239), (zk0 BK255), (zk0 BK256), GW255.out, GE255.out, NB213_255.out, NB255_213.out, NB214_255.out, NB255_214.out, NB234_255.out, NB255_234.out, NB235_255.out, NB255_235.out, NB239_255.out, NB255_239.out, NB256_255.out, NB255_256.out, GW256.out, GE256.out, NB213_256.out, NB256_213.out, NB214_256.out, NB256_214.out, NB234_256.out, NB256_234.out, NB235_256.out, NB256_235.out, NB239_256.out, NB256_239.out, (zh0 HB)⟩)
              ·skip
               rintro _ w59 ⟨hS_, h0_, h1_, h2_, h3_, h4_, h5_, h6_, h7_⟩
               try dsimp only at hS_ h0_ h1_ h2_ h3_ h4_ h5_ h6_ h7_
               replace HO218 := Aside0.mk h0_
               replace HO238 := Aside0.mk h1_
               replace BK213 := Aside0.mk h2_
               replace BK214 := Aside0.mk h3_
               replace BK234 := Aside0.mk h4_
               replace BK235 := Aside0.mk h5_
               replace BK239 := Aside0.mk h6_
               replace HB := Aside0.mk h7_
               clear h0_ h1_ h2_ h3_ h4_ h5_ h6_ h7_
               have hHeld := hS_
               refine norm_ (a' := ?_) ?_ ?_
               rotate_left
               ·simp only [putAll, Act.put, zp1, zp2, zp3]
                rfl
               refine three_ (i := 3) (j := 8) (k := 9) (Ni := some 33) (Nj := some 10) (Nk := some 11) #[true, true, true, true, false, false, false, false, false, false, false, false, false] #[true, true, true, false, false, false, false, false, true, false, false, false, false] #[true, true, true, false, false, false, false, false, false, true, false, false, false] rfl rfl rfl rfl rfl rfl (three_of HT_.out (by kernel_rfl)) (by decide) (by decide) (by decide) (fun K hK => ?_) (fun K hK => ?_) (fun K hK => ?_)
               ·skip
                refine goes_ Try.func34 (by kernel_rfl) rfl #[.agg #[.slice Ao50 t236.length co50], .agg #[.int .i64 t240, .int .i64 t241, .int .i64 t242, .int .i64 t243, .int .i64 t244, .int .i64 t245]] (by rfl) rfl rfl (by (try simp only [List.map_toArray, List.map_cons, List.map_nil]); first | done | rfl | (simp only [List.length_drop, List.length_take]; rfl)) ?_
                with_reducible refine (impl_RingParts.calls k _ _ t236 t240 t241 t242 t243 t244 t245 t246 t247 t248 t249 t250 t251 t252 t253 t254 _ ?side1 ?side2 A15.out).mono ?_
                (case side1 => repeat (first | exact (Kd.S_reads' HO238.out).2.2 | (with_reducible refine Kd.C_alloc ?_ _) | (with_reducible refine Kd.C_drewN ?_ _) | (with_reducible refine Kd.C_drew ?_)))
                (case side2 => exact (Kd.S_reads' HO238.out).2.1)
                rintro e w60 ⟨rfl, hb⟩
                refine ⟨_, rfl, ?_⟩
                replace HO218 := zsb HO218 hb
                replace HO238 := zsb HO238 hb
                replace BK213 := zb0 BK213 hb
                replace BK214 := zb0 BK214 hb
                replace BK234 := zb0 BK234 hb
                replace BK235 := zb0 BK235 hb
                replace BK239 := zb0 BK239 hb
                replace HB := zhs HB hb
                (try clear hb)
                (try clear hb2)
                (try clear hk)
                (try clear hi)
                refine hK.out _ _ ⟨zc0 BK239 0 rfl, zc0 BK214 0 rfl, zc0 BK214 1 rfl, zc0 BK214 2 rfl, zc0 BK214 3 rfl, zc0 BK214 4 rfl, zc0 BK214 5 rfl⟩ (fun hHeld => ?_)
                clear hK K
                refine norm_ (a' := ?_) ?_ ?_
                rotate_left
                ·show Act.put _ (some 33) _ = _
                 simp only [Act.put, zp1, zp2, zp3, i64_w, i32_w]
                 rfl
                refine pure_ (i := 4) (N := some 29) (v := ?_) (a' := ?_) #[true, true, true, true, true, false, false, false, false, false, false, false, false] rfl rfl (any_of HT_.out (by kernel_rfl)) (fun _ _ _ h => h) (Or.inl ⟨by rfl, ?_⟩) ?_ ?_
                rotate_left
                ·intro w'
                 go_simp
                 with_reducible rfl
                rotate_left
                ·simp only [Act.put, zp1, zp2, zp3, i64_w, i32_w]
                 rfl
                refine pure_ (i := 5) (N := some 34) (v := ?_) (a' := ?_) #[true, true, true, true, true, true, false, false, false, false, false, false, false] rfl rfl (any_of HT_.out (by kernel_rfl)) (fun _ _ _ h => h) (Or.inl ⟨by rfl, ?_⟩) ?_ ?_
                rotate_left
                ·intro w'
                 go_simp
                 with_reducible rfl
                rotate_left
                ·simp only [Act.put, zp1, zp2, zp3, i64_w, i32_w]
                 rfl
                refine pure_ (i := 6) (N := some 35) (v := ?_) (a' := ?_) #[true, true, true, true, true, true, true, false, false, false, false, false, false] rfl rfl (any_of HT_.out (by kernel_rfl)) (fun _ _ _ h => h) (Or.inl ⟨by rfl, ?_⟩) ?_ ?_
                rotate_left
                ·intro w'
                 go_simp
                 with_reducible rfl
                rotate_left
                ·simp only [Act.put, zp1, zp2, zp3, i64_w, i32_w]
                 rfl
                refine pure_ (i := 7) (N := some 36) (v := ?_) (a' := ?_) #[true, true, true, true, true, true, true, true, false, false, false, false, false] rfl rfl (any_of HT_.out (by kernel_rfl)) (fun _ _ _ h => h) (Or.inl ⟨by rfl, ?_⟩) ?_ ?_
                rotate_left
                ·intro w'
                 go_simp
                 with_reducible rfl
                rotate_left
                ·simp only [Act.put, zp1, zp2, zp3, i64_w, i32_w]
                 rfl
                exact norm_ (by simp only [putAll, Act.put, zp1, zp2, zp3]; first | done | rfl) (hJ2_3 () _ ⟨hHeld, (zs0 HO218), (zs0 HO238), (zk0 BK213), (zk0 BK214), (zk0 BK234), (zk0 BK235), (zk0 BK239), (zh0 HB)⟩)
               ·skip
                refine box_step ?hg (N := 10) ?hd (cs := #[.int .i64 0, .int .i64 0, .int .i64 0, .int .i64 0]) (t := 34) ?hr ?_; (case hd => rfl); (case hg => rfl); (case hr => first | (go_simp; done) | (go_simp; rfl))
                intro gb255 hg w60 hbox hb
                have BK255 := Aside0.mk (hbox)
                have GW255 := zge HB hg
                have GE255 := zge HB hg
                have NB213_255 := znl BK213 hg
                have NB255_213 := znr BK213 hg
                have NB214_255 := znl BK214 hg
                have NB255_214 := znr BK214 hg
                have NB234_255 := znl BK234 hg
                have NB255_234 := znr BK234 hg
                have NB235_255 := znl BK235 hg
                have NB255_235 := znr BK235 hg
                have NB239_255 := znl BK239 hg
                have NB255_239 := znr BK239 hg
                replace HO218 := zsb HO218 hb
                replace HO238 := zsb HO238 hb
                replace BK213 := zb0 BK213 hb
                replace BK214 := zb0 BK214 hb
                replace BK234 := zb0 BK234 hb
                replace BK235 := zb0 BK235 hb
                replace BK239 := zb0 BK239 hb
                replace HB := zhs HB hb
                clear hb hbox hg
                refine hK.out _ _ ⟨zc0 BK239 0 rfl, zc0 BK214 0 rfl, zc0 BK214 1 rfl, zc0 BK214 2 rfl, zc0 BK214 3 rfl, zc0 BK214 4 rfl, zc0 BK214 5 rfl⟩ (fun hHeld => ?_)
                clear hK K
                refine norm_ (a' := ?_) ?_ ?_
                rotate_left
                ·show Act.put _ (some 10) _ = _
                 simp only [Act.put, zp1, zp2, zp3, i64_w, i32_w]
                 rfl
                exact norm_ (by simp only [putAll, Act.put, zp1, zp2, zp3]; first | done | rfl) (hJ2_8 (gb255) _ ⟨hHeld, (zs0 HO218), (zs0 HO238), (zk0 BK213), (zk0 BK214), (zk0 BK234), (zk0 BK235), (zk0 BK239), (zk0 BK255), GW255.out, GE255.out, NB213_255.out, NB255_213.out, NB214_255.out, NB255_214.out, NB234_255.out, NB255_234.out, NB235_255.out, NB255_235.out, NB239_255.out, NB255_239.out, (zh0 HB)⟩)
               ·skip
                refine box_step ?hg (N := 11) ?hd (cs := #[.int .i64 0, .int .i64 0, .int .i64 0, .int .i64 0]) (t := 34) ?hr ?_; (case hd => rfl); (case hg => rfl); (case hr => first | (go_simp; done) | (go_simp; rfl))
                intro gb256 hg w60 hbox hb
                have BK256 := Aside0.mk (hbox)
                have GW256 := zge HB hg
                have GE256 := zge HB hg
                have NB213_256 := znl BK213 hg
                have NB256_213 := znr BK213 hg
                have NB214_256 := znl BK214 hg
                have NB256_214 := znr BK214 hg
                have NB234_256 := znl BK234 hg
                have NB256_234 := znr BK234 hg
                have NB235_256 := znl BK235 hg
                have NB256_235 := znr BK235 hg
                have NB239_256 := znl BK239 hg
                have NB256_239 := znr BK239 hg
                replace HO218 := zsb HO218 hb
                replace HO238 := zsb HO238 hb
                replace BK213 := zb0 BK213 hb
                replace BK214 := zb0 BK214 hb
                replace BK234 := zb0 BK234 hb
                replace BK235 := zb0 BK235 hb
                replace BK239 := zb0 BK239 hb
                replace HB := zhs HB hb
                clear hb hbox hg
                refine hK.out _ _ ⟨zc0 BK239 0 rfl, zc0 BK214 0 rfl, zc0 BK214 1 rfl, zc0 BK214 2 rfl, zc0 BK214 3 rfl, zc0 BK214 4 rfl, zc0 BK214 5 rfl⟩ (fun hHeld => ?_)
                clear hK K
                refine norm_ (a' := ?_) ?_ ?_
                rotate_left
                ·show Act.put _ (some 11) _ = _
                 simp only [Act.put, zp1, zp2, zp3, i64_w, i32_w]
                 rfl
                exact norm_ (by simp only [putAll, Act.put, zp1, zp2, zp3]; first | done | rfl) (hJ2_9 (gb256) _ ⟨hHeld, (zs0 HO218), (zs0 HO238), (zk0 BK213), (zk0 BK214), (zk0 BK234), (zk0 BK235), (zk0 BK239), (zk0 BK256), GW256.out, GE256.out, NB213_256.out, NB256_213.out, NB214_256.out, NB256_214.out, NB234_256.out, NB256_234.out, NB235_256.out, NB256_235.out, NB239_256.out, NB256_239.out, (zh0 HB)⟩)
             ·skip
              rintro ⟨gb255, gb256⟩ w60 ⟨hS_, h0_, h1_, h2_, h3_, h4_, h5_, h6_, h7_, h8_, h9_, h10_, h11_, h12_, h13_, h14_, h15_, h16_, h17_, h18_, h19_, h20_, h21_, h22_, h23_, h24_, h25_, h26_, h27_, h28_, h29_, h30_, h31_, h32_, h33_, h34_, h35_⟩
              try dsimp only at hS_ h0_ h1_ h2_ h3_ h4_ h5_ h6_ h7_ h8_ h9_ h10_ h11_ h12_ h13_ h14_ h15_ h16_ h17_ h18_ h19_ h20_ h21_ h22_ h23_ h24_ h25_ h26_ h27_ h28_ h29_ h30_ h31_ h32_ h33_ h34_ h35_
              have BK255 := Aside0.mk h7_
              have BK256 := Aside0.mk h8_
              have GW255 := Aside0.mk h9_
              have GE255 := Aside0.mk h10_
              have NB213_255 := Aside0.mk h11_
              have NB255_213 := Aside0.mk h12_
              have NB214_255 := Aside0.mk h13_
              have NB255_214 := Aside0.mk h14_
              have NB234_255 := Aside0.mk h15_
              have NB255_234 := Aside0.mk h16_
              have NB235_255 := Aside0.mk h17_
              have NB255_235 := Aside0.mk h18_
              have NB239_255 := Aside0.mk h19_
              have NB255_239 := Aside0.mk h20_
              have NB256_255 := Aside0.mk h21_
              have NB255_256 := Aside0.mk h22_
              have GW256 := Aside0.mk h23_
              have GE256 := Aside0.mk h24_
              have NB213_256 := Aside0.mk h25_
              have NB256_213 := Aside0.mk h26_
              have NB214_256 := Aside0.mk h27_
              have NB256_214 := Aside0.mk h28_
              have NB234_256 := Aside0.mk h29_
              have NB256_234 := Aside0.mk h30_
              have NB235_256 := Aside0.mk h31_
              have NB256_235 := Aside0.mk h32_
              have NB239_256 := Aside0.mk h33_
              have NB256_239 := Aside0.mk h34_
              replace HO218 := Aside0.mk h0_
              replace HO238 := Aside0.mk h1_
              replace BK213 := Aside0.mk h2_
              replace BK214 := Aside0.mk h3_
              replace BK234 := Aside0.mk h4_
              replace BK235 := Aside0.mk h5_
              replace BK239 := Aside0.mk h6_
              replace HB := Aside0.mk h35_
              clear h0_ h1_ h2_ h3_ h4_ h5_ h6_ h7_ h8_ h9_ h10_ h11_ h12_ h13_ h14_ h15_ h16_ h17_ h18_ h19_ h20_ h21_ h22_ h23_ h24_ h25_ h26_ h27_ h28_ h29_ h30_ h31_ h32_ h33_ h34_ h35_
              have hHeld := hS_
              refine norm_ (a' := ?_) ?_ ?_
              rotate_left
              ·simp only [putAll, Act.put, zp1, zp2, zp3]
               rfl
              refine one_ (i := 2) (N := some 32) #[true, true, true, false, false, false, false, false, true, true, false, false, false] rfl rfl (one_of HT_.out (by kernel_rfl)) (by decide) (fun K hK => ?_)
              refine goes_ Try.func17 (by kernel_rfl) rfl #[.agg #[.int .i64 a1_0, .int .i64 a1_1, .int .i64 a1_2, .int .i64 a1_3, .int .i64 a1_4, .int .i64 a1_5]] (by rfl) rfl rfl (by (try simp only [List.map_toArray, List.map_cons, List.map_nil]); first | done | rfl | (simp only [List.length_drop, List.length_take]; rfl)) ?_
              with_reducible refine (laws_toRing.calls a1_0 a1_1 a1_2 a1_3 a1_4 a1_5 t240 t241 t242 t243 t244 t245 _ A14.out).mono ?_
              rintro e w61 ⟨rfl, hb⟩
              refine ⟨_, rfl, ?_⟩
              replace HO218 := zsb HO218 hb
              replace HO238 := zsb HO238 hb
              replace BK213 := zb0 BK213 hb
              replace BK214 := zb0 BK214 hb
              replace BK234 := zb0 BK234 hb
              replace BK235 := zb0 BK235 hb
              replace BK239 := zb0 BK239 hb
              replace BK255 := zb0 BK255 hb
              replace BK256 := zb0 BK256 hb
              replace HB := zhs HB hb
              (try clear hb)
              (try clear hb2)
              (try clear hk)
              (try clear hi)
              refine hK.out _ _ ⟨zc0 BK239 0 rfl, zc0 BK214 0 rfl, zc0 BK214 1 rfl, zc0 BK214 2 rfl, zc0 BK214 3 rfl, zc0 BK214 4 rfl, zc0 BK214 5 rfl⟩ (fun hHeld => ?_)
              clear hK K
              refine norm_ (a' := ?_) ?_ ?_
              rotate_left
              ·show Act.put _ (some 32) _ = _
               simp only [Act.put, zp1, zp2, zp3, i64_w, i32_w]
               rfl
              exact norm_ (by simp only [putAll, Act.put, zp1, zp2, zp3]; first | done | rfl) (hJ2_8_9 (gb255, gb256) _ ⟨hHeld, (zs0 HO218), (zs0 HO238), (zk0 BK213), (zk0 BK214), (zk0 BK234), (zk0 BK235), (zk0 BK239), (zk0 BK255), (zk0 BK256), GW255.out, GE255.out, NB213_255.out, NB255_213.out, NB214_255.out, NB255_214.out, NB234_255.out, NB255_234.out, NB235_255.out, NB255_235.out, NB239_255.out, NB255_239.out, NB256_255.out, NB255_256.out, GW256.out, GE256.out, NB213_256.out, NB256_213.out, NB214_256.out, NB256_214.out, NB234_256.out, NB256_234.out, NB235_256.out, NB256_235.out, NB239_256.out, NB256_239.out, (zh0 HB)⟩)
            ·skip
             rintro gb256 w60 ⟨hS_, h0_, h1_, h2_, h3_, h4_, h5_, h6_, h7_, h8_, h9_, h10_, h11_, h12_, h13_, h14_, h15_, h16_, h17_, h18_, h19_, h20_⟩
             try dsimp only at hS_ h0_ h1_ h2_ h3_ h4_ h5_ h6_ h7_ h8_ h9_ h10_ h11_ h12_ h13_ h14_ h15_ h16_ h17_ h18_ h19_ h20_
             have BK256 := Aside0.mk h7_
             have GW256 := Aside0.mk h8_
             have GE256 := Aside0.mk h9_
             have NB213_256 := Aside0.mk h10_
             have NB256_213 := Aside0.mk h11_
             have NB214_256 := Aside0.mk h12_
             have NB256_214 := Aside0.mk h13_
             have NB234_256 := Aside0.mk h14_
             have NB256_234 := Aside0.mk h15_
             have NB235_256 := Aside0.mk h16_
             have NB256_235 := Aside0.mk h17_
             have NB239_256 := Aside0.mk h18_
             have NB256_239 := Aside0.mk h19_
             replace HO218 := Aside0.mk h0_
             replace HO238 := Aside0.mk h1_
             replace BK213 := Aside0.mk h2_
             replace BK214 := Aside0.mk h3_
             replace BK234 := Aside0.mk h4_
             replace BK235 := Aside0.mk h5_
             replace BK239 := Aside0.mk h6_
             replace HB := Aside0.mk h20_
             clear h0_ h1_ h2_ h3_ h4_ h5_ h6_ h7_ h8_ h9_ h10_ h11_ h12_ h13_ h14_ h15_ h16_ h17_ h18_ h19_ h20_
             have hHeld := hS_
             refine norm_ (a' := ?_) ?_ ?_
             rotate_left
             ·simp only [putAll, Act.put, zp1, zp2, zp3]
              rfl
             refine two_ (i := 3) (j := 8) (Ni := some 33) (Nj := some 10) #[true, true, true, true, false, false, false, false, false, true, false, false, false] #[true, true, true, false, false, false, false, false, true, true, false, false, false] rfl rfl rfl rfl (two_of HT_.out (by kernel_rfl)) (by decide) (by decide) (fun K hK => ?_) (fun K hK => ?_)
             ·skip
              refine goes_ Try.func34 (by kernel_rfl) rfl #[.agg #[.slice Ao50 t236.length co50], .agg #[.int .i64 t240, .int .i64 t241, .int .i64 t242, .int .i64 t243, .int .i64 t244, .int .i64 t245]] (by rfl) rfl rfl (by (try simp only [List.map_toArray, List.map_cons, List.map_nil]); first | done | rfl | (simp only [List.length_drop, List.length_take]; rfl)) ?_
              with_reducible refine (impl_RingParts.calls k _ _ t236 t240 t241 t242 t243 t244 t245 t246 t247 t248 t249 t250 t251 t252 t253 t254 _ ?side1 ?side2 A15.out).mono ?_
              (case side1 => repeat (first | exact (Kd.S_reads' HO238.out).2.2 | (with_reducible refine Kd.C_alloc ?_ _) | (with_reducible refine Kd.C_drewN ?_ _) | (with_reducible refine Kd.C_drew ?_)))
              (case side2 => exact (Kd.S_reads' HO238.out).2.1)
              rintro e w61 ⟨rfl, hb⟩
              refine ⟨_, rfl, ?_⟩
              replace HO218 := zsb HO218 hb
              replace HO238 := zsb HO238 hb
              replace BK213 := zb0 BK213 hb
              replace BK214 := zb0 BK214 hb
              replace BK234 := zb0 BK234 hb
              replace BK235 := zb0 BK235 hb
              replace BK239 := zb0 BK239 hb
              replace BK256 := zb0 BK256 hb
              replace HB := zhs HB hb
              (try clear hb)
              (try clear hb2)
              (try clear hk)
              (try clear hi)
              refine hK.out _ _ ⟨zc0 BK239 0 rfl, zc0 BK214 0 rfl, zc0 BK214 1 rfl, zc0 BK214 2 rfl, zc0 BK214 3 rfl, zc0 BK214 4 rfl, zc0 BK214 5 rfl⟩ (fun hHeld => ?_)
              clear hK K
              refine norm_ (a' := ?_) ?_ ?_
              rotate_left
              ·show Act.put _ (some 33) _ = _
               simp only [Act.put, zp1, zp2, zp3, i64_w, i32_w]
               rfl
              refine pure_ (i := 4) (N := some 29) (v := ?_) (a' := ?_) #[true, true, true, true, true, false, false, false, false, true, false, false, false] rfl rfl (any_of HT_.out (by kernel_rfl)) (fun _ _ _ h => h) (Or.inl ⟨by rfl, ?_⟩) ?_ ?_
              rotate_left
              ·intro w'
               go_simp
               with_reducible rfl
              rotate_left
              ·simp only [Act.put, zp1, zp2, zp3, i64_w, i32_w]
               rfl
              refine pure_ (i := 5) (N := some 34) (v := ?_) (a' := ?_) #[true, true, true, true, true, true, false, false, false, true, false, false, false] rfl rfl (any_of HT_.out (by kernel_rfl)) (fun _ _ _ h => h) (Or.inl ⟨by rfl, ?_⟩) ?_ ?_
              rotate_left
              ·intro w'
               go_simp
               with_reducible rfl
              rotate_left
              ·simp only [Act.put, zp1, zp2, zp3, i64_w, i32_w]
               rfl
              refine pure_ (i := 6) (N := some 35) (v := ?_) (a' := ?_) #[true, true, true, true, true, true, true, false, false, true, false, false, false] rfl rfl (any_of HT_.out (by kernel_rfl)) (fun _ _ _ h => h) (Or.inl ⟨by rfl, ?_⟩) ?_ ?_
              rotate_left
              ·intro w'
               go_simp
               with_reducible rfl
              rotate_left
              ·simp only [Act.put, zp1, zp2, zp3, i64_w, i32_w]
               rfl
              refine pure_ (i := 7) (N := some 36) (v := ?_) (a' := ?_) #[true, true, true, true, true, true, true, true, false, true, false, false, false] rfl rfl (any_of HT_.out (by kernel_rfl)) (fun _ _ _ h => h) (Or.inl ⟨by rfl, ?_⟩) ?_ ?_
              rotate_left
              ·intro w'
               go_simp
               with_reducible rfl
              rotate_left
              ·simp only [Act.put, zp1, zp2, zp3, i64_w, i32_w]
               rfl
              exact norm_ (by simp only [putAll, Act.put, zp1, zp2, zp3]; first | done | rfl) (hJ2_3_9 (gb256) _ ⟨hHeld, (zs0 HO218), (zs0 HO238), (zk0 BK213), (zk0 BK214), (zk0 BK234), (zk0 BK235), (zk0 BK239), (zk0 BK256), GW256.out, GE256.out, NB213_256.out, NB256_213.out, NB214_256.out, NB256_214.out, NB234_256.out, NB256_234.out, NB235_256.out, NB256_235.out, NB239_256.out, NB256_239.out, (zh0 HB)⟩)
             ·skip
              refine box_step ?hg (N := 10) ?hd (cs := #[.int .i64 0, .int .i64 0, .int .i64 0, .int .i64 0]) (t := 34) ?hr ?_; (case hd => rfl); (case hg => rfl); (case hr => first | (go_simp; done) | (go_simp; rfl))
              intro gb255 hg w61 hbox hb
              have BK255 := Aside0.mk (hbox)
              have GW255 := zge HB hg
              have GE255 := zge HB hg
              have NB213_255 := znl BK213 hg
              have NB255_213 := znr BK213 hg
              have NB214_255 := znl BK214 hg
              have NB255_214 := znr BK214 hg
              have NB234_255 := znl BK234 hg
              have NB255_234 := znr BK234 hg
              have NB235_255 := znl BK235 hg
              have NB255_235 := znr BK235 hg
              have NB239_255 := znl BK239 hg
              have NB255_239 := znr BK239 hg
              have NB256_255 := znl BK256 hg
              have NB255_256 := znr BK256 hg
              replace HO218 := zsb HO218 hb
              replace HO238 := zsb HO238 hb
              replace BK213 := zb0 BK213 hb
              replace BK214 := zb0 BK214 hb
              replace BK234 := zb0 BK234 hb
              replace BK235 := zb0 BK235 hb
              replace BK239 := zb0 BK239 hb
              replace BK256 := zb0 BK256 hb
              replace HB := zhs HB hb
              clear hb hbox hg
              refine hK.out _ _ ⟨zc0 BK239 0 rfl, zc0 BK214 0 rfl, zc0 BK214 1 rfl, zc0 BK214 2 rfl, zc0 BK214 3 rfl, zc0 BK214 4 rfl, zc0 BK214 5 rfl⟩ (fun hHeld => ?_)
              clear hK K
              refine norm_ (a' := ?_) ?_ ?_
              rotate_left
              ·show Act.put _ (some 10) _ = _
               simp only [Act.put, zp1, zp2, zp3, i64_w, i32_w]
               rfl
              exact norm_ (by simp only [putAll, Act.put, zp1, zp2, zp3]; first | done | rfl) (hJ2_8_9 (gb255, gb256) _ ⟨hHeld, (zs0 HO218), (zs0 HO238), (zk0 BK213), (zk0 BK214), (zk0 BK234), (zk0 BK235), (zk0 BK239), (zk0 BK255), (zk0 BK256), GW255.out, GE255.out, NB213_255.out, NB255_213.out, NB214_255.out, NB255_214.out, NB234_255.out, NB255_234.out, NB235_255.out, NB255_235.out, NB239_255.out, NB255_239.out, NB256_255.out, NB255_256.out, GW256.out, GE256.out, NB213_256.out, NB256_213.out, NB214_256.out, NB256_214.out, NB234_256.out, NB256_234.out, NB235_256.out, NB256_235.out, NB239_256.out, NB256_239.out, (zh0 HB)⟩)
           ·skip
            rintro gb255 w60 ⟨hS_, h0_, h1_, h2_, h3_, h4_, h5_, h6_, h7_, h8_, h9_, h10_, h11_, h12_, h13_, h14_, h15_, h16_, h17_, h18_, h19_, h20_⟩
            try dsimp only at hS_ h0_ h1_ h2_ h3_ h4_ h5_ h6_ h7_ h8_ h9_ h10_ h11_ h12_ h13_ h14_ h15_ h16_ h17_ h18_ h19_ h20_
            have BK255 := Aside0.mk h7_
            have GW255 := Aside0.mk h8_
            have GE255 := Aside0.mk h9_
            have NB213_255 := Aside0.mk h10_
            have NB255_213 := Aside0.mk h11_
            have NB214_255 := Aside0.mk h12_
            have NB255_214 := Aside0.mk h13_
            have NB234_255 := Aside0.mk h14_
            have NB255_234 := Aside0.mk h15_
            have NB235_255 := Aside0.mk h16_
            have NB255_235 := Aside0.mk h17_
            have NB239_255 := Aside0.mk h18_
            have NB255_239 := Aside0.mk h19_
            replace HO218 := Aside0.mk h0_
            replace HO238 := Aside0.mk h1_
            replace BK213 := Aside0.mk h2_
            replace BK214 := Aside0.mk h3_
            replace BK234 := Aside0.mk h4_
            replace BK235 := Aside0.mk h5_
            replace BK239 := Aside0.mk h6_
            replace HB := Aside0.mk h20_
            clear h0_ h1_ h2_ h3_ h4_ h5_ h6_ h7_ h8_ h9_ h10_ h11_ h12_ h13_ h14_ h15_ h16_ h17_ h18_ h19_ h20_
            have hHeld := hS_
            refine norm_ (a' := ?_) ?_ ?_
            rotate_left
            ·simp only [putAll, Act.put, zp1, zp2, zp3]
             rfl
            refine two_ (i := 3) (j := 9) (Ni := some 33) (Nj := some 11) #[true, true, true, true, false, false, false, false, true, false, false, false, false] #[true, true, true, false, false, false, false, false, true, true, false, false, false] rfl rfl rfl rfl (two_of HT_.out (by kernel_rfl)) (by decide) (by decide) (fun K hK => ?_) (fun K hK => ?_)
            ·skip
             refine goes_ Try.func34 (by kernel_rfl) rfl #[.agg #[.slice Ao50 t236.length co50], .agg #[.int .i64 t240, .int .i64 t241, .int .i64 t242, .int .i64 t243, .int .i64 t244, .int .i64 t245]] (by rfl) rfl rfl (by (try simp only [List.map_toArray, List.map_cons, List.map_nil]); first | done | rfl | (simp only [List.length_drop, List.length_take]; rfl)) ?_
             with_reducible refine (impl_RingParts.calls k _ _ t236 t240 t241 t242 t243 t244 t245 t246 t247 t248 t249 t250 t251 t252 t253 t254 _ ?side1 ?side2 A15.out).mono ?_
             (case side1 => repeat (first | exact (Kd.S_reads' HO238.out).2.2 | (with_reducible refine Kd.C_alloc ?_ _) | (with_reducible refine Kd.C_drewN ?_ _) | (with_reducible refine Kd.C_drew ?_)))
             (case side2 => exact (Kd.S_reads' HO238.out).2.1)
             rintro e w61 ⟨rfl, hb⟩
             refine ⟨_, rfl, ?_⟩
             replace HO218 := zsb HO218 hb
             replace HO238 := zsb HO238 hb
             replace BK213 := zb0 BK213 hb
             replace BK214 := zb0 BK214 hb
             replace BK234 := zb0 BK234 hb
             replace BK235 := zb0 BK235 hb
             replace BK239 := zb0 BK239 hb
             replace BK255 := zb0 BK255 hb
             replace HB := zhs HB hb
             (try clear hb)
             (try clear hb2)
             (try clear hk)
             (try clear hi)
             refine hK.out _ _ ⟨zc0 BK239 0 rfl, zc0 BK214 0 rfl, zc0 BK214 1 rfl, zc0 BK214 2 rfl, zc0 BK214 3 rfl, zc0 BK214 4 rfl, zc0 BK214 5 rfl⟩ (fun hHeld => ?_)
             clear hK K
             refine norm_ (a' := ?_) ?_ ?_
             rotate_left
             ·show Act.put _ (some 33) _ = _
              simp only [Act.put, zp1, zp2, zp3, i64_w, i32_w]
              rfl
             refine pure_ (i := 4) (N := some 29) (v := ?_) (a' := ?_) #[true, true, true, true, true, false, false, false, true, false, false, false, false] rfl rfl (any_of HT_.out (by kernel_rfl)) (fun _ _ _ h => h) (Or.inl ⟨by rfl, ?_⟩) ?_ ?_
             rotate_left
             ·intro w'
              go_simp
              with_reducible rfl
             rotate_left
             ·simp only [Act.put, zp1, zp2, zp3, i64_w, i32_w]
              rfl
             refine pure_ (i := 5) (N := some 34) (v := ?_) (a' := ?_) #[true, true, true, true, true, true, false, false, true, false, false, false, false] rfl rfl (any_of HT_.out (by kernel_rfl)) (fun _ _ _ h => h) (Or.inl ⟨by rfl, ?_⟩) ?_ ?_
             rotate_left
             ·intro w'
              go_simp
              with_reducible rfl
             rotate_left
             ·simp only [Act.put, zp1, zp2, zp3, i64_w, i32_w]
              rfl
             refine pure_ (i := 6) (N := some 35) (v := ?_) (a' := ?_) #[true, true, true, true, true, true, true, false, true, false, false, false, false] rfl rfl (any_of HT_.out (by kernel_rfl)) (fun _ _ _ h => h) (Or.inl ⟨by rfl, ?_⟩) ?_ ?_
             rotate_left
             ·intro w'
              go_simp
              with_reducible rfl
             rotate_left
             ·simp only [Act.put, zp1, zp2, zp3, i64_w, i32_w]
              rfl
             refine pure_ (i := 7) (N := some 36) (v := ?_) (a' := ?_) #[true, true, true, true, true, true, true, true, true, false, false, false, false] rfl rfl (any_of HT_.out (by kernel_rfl)) (fun _ _ _ h => h) (Or.inl ⟨by rfl, ?_⟩) ?_ ?_
             rotate_left
             ·intro w'
              go_simp
              with_reducible rfl
             rotate_left
             ·simp only [Act.put, zp1, zp2, zp3, i64_w, i32_w]
              rfl
             exact norm_ (by simp only [putAll, Act.put, zp1, zp2, zp3]; first | done | rfl) (hJ2_3_8 (gb255) _ ⟨hHeld, (zs0 HO218), (zs0 HO238), (zk0 BK213), (zk0 BK214), (zk0 BK234), (zk0 BK235), (zk0 BK239), (zk0 BK255), GW255.out, GE255.out, NB213_255.out, NB255_213.out, NB214_255.out, NB255_214.out, NB234_255.out, NB255_234.out, NB235_255.out, NB255_235.out, NB239_255.out, NB255_239.out, (zh0 HB)⟩)
            ·skip
             refine box_step ?hg (N := 11) ?hd (cs := #[.int .i64 0, .int .i64 0, .int .i64 0, .int .i64 0]) (t := 34) ?hr ?_; (case hd => rfl); (case hg => rfl); (case hr => first | (go_simp; done) | (go_simp; rfl))
             intro gb256 hg w61 hbox hb
             have BK256 := Aside0.mk (hbox)
             have GW256 := zge HB hg
             have GE256 := zge HB hg
             have NB213_256 := znl BK213 hg
             have NB256_213 := znr BK213 hg
             have NB214_256 := znl BK214 hg
             have NB256_214 := znr BK214 hg
             have NB234_256 := znl BK234 hg
             have NB256_234 := znr BK234 hg
             have NB235_256 := znl BK235 hg
             have NB256_235 := znr BK235 hg
             have NB239_256 := znl BK239 hg
             have NB256_239 := znr BK239 hg
             have NB255_256 := znl BK255 hg
             have NB256_255 := znr BK255 hg
             replace HO218 := zsb HO218 hb
             replace HO238 := zsb HO238 hb
             replace BK213 := zb0 BK213 hb
             replace BK214 := zb0 BK214 hb
             replace BK234 := zb0 BK234 hb
             replace BK235 := zb0 BK235 hb
             replace BK239 := zb0 BK239 hb
             replace BK255 := zb0 BK255 hb
             replace HB := zhs HB hb
             clear hb hbox hg
             refine hK.out _ _ ⟨zc0 BK239 0 rfl, zc0 BK214 0 rfl, zc0 BK214 1 rfl, zc0 BK214 2 rfl, zc0 BK214 3 rfl, zc0 BK214 4 rfl, zc0 BK214 5 rfl⟩ (fun hHeld => ?_)
             clear hK K
             refine norm_ (a' := ?_) ?_ ?_
             rotate_left
             ·show Act.put _ (some 11) _ = _
              simp only [Act.put, zp1, zp2, zp3, i64_w, i32_w]
              rfl
             exact norm_ (by simp only [putAll, Act.put, zp1, zp2, zp3]; first | done | rfl) (hJ2_8_9 (gb255, gb256) _ ⟨hHeld, (zs0 HO218), (zs0 HO238), (zk0 BK213), (zk0 BK214), (zk0 BK234), (zk0 BK235), (zk0 BK239), (zk0 BK255), (zk0 BK256), GW255.out, GE255.out, NB213_255.out, NB255_213.out, NB214_255.out, NB255_214.out, NB234_255.out, NB255_234.out, NB235_255.out, NB255_235.out, NB239_255.out, NB255_239.out, NB256_255.out, NB255_256.out, GW256.out, GE256.out, NB213_256.out, NB256_213.out, NB214_256.out, NB256_214.out, NB234_256.out, NB256_234.out, NB235_256.out, NB256_235.out, NB239_256.out, NB256_239.out, (zh0 HB)⟩)
          ·skip
           rintro _ w60 ⟨hS_, h0_, h1_, h2_, h3_, h4_, h5_, h6_, h7_⟩
           try dsimp only at hS_ h0_ h1_ h2_ h3_ h4_ h5_ h6_ h7_
           replace HO218 := Aside0.mk h0_
           replace HO238 := Aside0.mk h1_
           replace BK213 := Aside0.mk h2_
           replace BK214 := Aside0.mk h3_
           replace BK234 := Aside0.mk h4_
           replace BK235 := Aside0.mk h5_
           replace BK239 := Aside0.mk h6_
           replace HB := Aside0.mk h7_
           clear h0_ h1_ h2_ h3_ h4_ h5_ h6_ h7_
           have hHeld := hS_
           refine norm_ (a' := ?_) ?_ ?_
           rotate_left
           ·simp only [putAll, Act.put, zp1, zp2, zp3]
            rfl
           refine two_ (i := 8) (j := 9) (Ni := some 10) (Nj := some 11) #[true, true, true, true, true, true, true, true, true, false, false, false, false] #[true, true, true, true, true, true, true, true, false, true, false, false, false] rfl rfl rfl rfl (two_of HT_.out (by kernel_rfl)) (by decide) (by decide) (fun K hK => ?_) (fun K hK => ?_)
           ·skip
            refine box_step ?hg (N := 10) ?hd (cs := #[.int .i64 0, .int .i64 0, .int .i64 0, .int .i64 0]) (t := 34) ?hr ?_; (case hd => rfl); (case hg => rfl); (case hr => first | (go_simp; done) | (go_simp; rfl))
            intro gb255 hg w61 hbox hb
            have BK255 := Aside0.mk (hbox)
            have GW255 := zge HB hg
            have GE255 := zge HB hg
            have NB213_255 := znl BK213 hg
            have NB255_213 := znr BK213 hg
            have NB214_255 := znl BK214 hg
            have NB255_214 := znr BK214 hg
            have NB234_255 := znl BK234 hg
            have NB255_234 := znr BK234 hg
            have NB235_255 := znl BK235 hg
            have NB255_235 := znr BK235 hg
            have NB239_255 := znl BK239 hg
            have NB255_239 := znr BK239 hg
            replace HO218 := zsb HO218 hb
            replace HO238 := zsb HO238 hb
            replace BK213 := zb0 BK213 hb
            replace BK214 := zb0 BK214 hb
            replace BK234 := zb0 BK234 hb
            replace BK235 := zb0 BK235 hb
            replace BK239 := zb0 BK239 hb
            replace HB := zhs HB hb
            clear hb hbox hg
            refine hK.out _ _ ⟨zc0 BK239 0 rfl, zc0 BK214 0 rfl, zc0 BK214 1 rfl, zc0 BK214 2 rfl, zc0 BK214 3 rfl, zc0 BK214 4 rfl, zc0 BK214 5 rfl⟩ (fun hHeld => ?_)
            clear hK K
            refine norm_ (a' := ?_) ?_ ?_
            rotate_left
            ·show Act.put _ (some 10) _ = _
             simp only [Act.put, zp1, zp2, zp3, i64_w, i32_w]
             rfl
            exact norm_ (by simp only [putAll, Act.put, zp1, zp2, zp3]; first | done | rfl) (hJ2_3_8 (gb255) _ ⟨hHeld, (zs0 HO218), (zs0 HO238), (zk0 BK213), (zk0 BK214), (zk0 BK234), (zk0 BK235), (zk0 BK239), (zk0 BK255), GW255.out, GE255.out, NB213_255.out, NB255_213.out, NB214_255.out, NB255_214.out, NB234_255.out, NB255_234.out, NB235_255.out, NB255_235.out, NB239_255.out, NB255_239.out, (zh0 HB)⟩)
           ·skip
            refine box_step ?hg (N := 11) ?hd (cs := #[.int .i64 0, .int .i64 0, .int .i64 0, .int .i64 0]) (t := 34) ?hr ?_; (case hd => rfl); (case hg => rfl); (case hr => first | (go_simp; done) | (go_simp; rfl))
            intro gb256 hg w61 hbox hb
            have BK256 := Aside0.mk (hbox)
            have GW256 := zge HB hg
            have GE256 := zge HB hg
            have NB213_256 := znl BK213 hg
            have NB256_213 := znr BK213 hg
            have NB214_256 := znl BK214 hg
            have NB256_214 := znr BK214 hg
            have NB234_256 := znl BK234 hg
            have NB256_234 := znr BK234 hg
            have NB235_256 := znl BK235 hg
            have NB256_235 := znr BK235 hg
            have NB239_256 := znl BK239 hg
            have NB256_239 := znr BK239 hg
            replace HO218 := zsb HO218 hb
            replace HO238 := zsb HO238 hb
            replace BK213 := zb0 BK213 hb
            replace BK214 := zb0 BK214 hb
            replace BK234 := zb0 BK234 hb
            replace BK235 := zb0 BK235 hb
            replace BK239 := zb0 BK239 hb
            replace HB := zhs HB hb
            clear hb hbox hg
            refine hK.out _ _ ⟨zc0 BK239 0 rfl, zc0 BK214 0 rfl, zc0 BK214 1 rfl, zc0 BK214 2 rfl, zc0 BK214 3 rfl, zc0 BK214 4 rfl, zc0 BK214 5 rfl⟩ (fun hHeld => ?_)
            clear hK K
            refine norm_ (a' := ?_) ?_ ?_
            rotate_left
            ·show Act.put _ (some 11) _ = _
             simp only [Act.put, zp1, zp2, zp3, i64_w, i32_w]
             rfl
            exact norm_ (by simp only [putAll, Act.put, zp1, zp2, zp3]; first | done | rfl) (hJ2_3_9 (gb256) _ ⟨hHeld, (zs0 HO218), (zs0 HO238), (zk0 BK213), (zk0 BK214), (zk0 BK234), (zk0 BK235), (zk0 BK239), (zk0 BK256), GW256.out, GE256.out, NB213_256.out, NB256_213.out, NB214_256.out, NB256_214.out, NB234_256.out, NB256_234.out, NB235_256.out, NB256_235.out, NB239_256.out, NB256_239.out, (zh0 HB)⟩)
         ·skip
          rintro ⟨gb255, gb256⟩ w61 ⟨hS_, h0_, h1_, h2_, h3_, h4_, h5_, h6_, h7_, h8_, h9_, h10_, h11_, h12_, h13_, h14_, h15_, h16_, h17_, h18_, h19_, h20_, h21_, h22_, h23_, h24_, h25_, h26_, h27_, h28_, h29_, h30_, h31_, h32_, h33_, h34_, h35_⟩
          try dsimp only at hS_ h0_ h1_ h2_ h3_ h4_ h5_ h6_ h7_ h8_ h9_ h10_ h11_ h12_ h13_ h14_ h15_ h16_ h17_ h18_ h19_ h20_ h21_ h22_ h23_ h24_ h25_ h26_ h27_ h28_ h29_ h30_ h31_ h32_ h33_ h34_ h35_
          have BK255 := Aside0.mk h7_
          have BK256 := Aside0.mk h8_
          have GW255 := Aside0.mk h9_
          have GE255 := Aside0.mk h10_
          have NB213_255 := Aside0.mk h11_
          have NB255_213 := Aside0.mk h12_
          have NB214_255 := Aside0.mk h13_
          have NB255_214 := Aside0.mk h14_
          have NB234_255 := Aside0.mk h15_
          have NB255_234 := Aside0.mk h16_
          have NB235_255 := Aside0.mk h17_
          have NB255_235 := Aside0.mk h18_
          have NB239_255 := Aside0.mk h19_
          have NB255_239 := Aside0.mk h20_
          have NB256_255 := Aside0.mk h21_
          have NB255_256 := Aside0.mk h22_
          have GW256 := Aside0.mk h23_
          have GE256 := Aside0.mk h24_
          have NB213_256 := Aside0.mk h25_
          have NB256_213 := Aside0.mk h26_
          have NB214_256 := Aside0.mk h27_
          have NB256_214 := Aside0.mk h28_
          have NB234_256 := Aside0.mk h29_
          have NB256_234 := Aside0.mk h30_
          have NB235_256 := Aside0.mk h31_
          have NB256_235 := Aside0.mk h32_
          have NB239_256 := Aside0.mk h33_
          have NB256_239 := Aside0.mk h34_
          replace HO218 := Aside0.mk h0_
          replace HO238 := Aside0.mk h1_
          replace BK213 := Aside0.mk h2_
          replace BK214 := Aside0.mk h3_
          replace BK234 := Aside0.mk h4_
          replace BK235 := Aside0.mk h5_
          replace BK239 := Aside0.mk h6_
          replace HB := Aside0.mk h35_
          clear h0_ h1_ h2_ h3_ h4_ h5_ h6_ h7_ h8_ h9_ h10_ h11_ h12_ h13_ h14_ h15_ h16_ h17_ h18_ h19_ h20_ h21_ h22_ h23_ h24_ h25_ h26_ h27_ h28_ h29_ h30_ h31_ h32_ h33_ h34_ h35_
          have hHeld := hS_
          refine norm_ (a' := ?_) ?_ ?_
          rotate_left
          ·simp only [putAll, Act.put, zp1, zp2, zp3]
           rfl
          refine one_ (i := 3) (N := some 33) #[true, true, true, true, false, false, false, false, true, true, false, false, false] rfl rfl (one_of HT_.out (by kernel_rfl)) (by decide) (fun K hK => ?_)
          refine goes_ Try.func34 (by kernel_rfl) rfl #[.agg #[.slice Ao50 t236.length co50], .agg #[.int .i64 t240, .int .i64 t241, .int .i64 t242, .int .i64 t243, .int .i64 t244, .int .i64 t245]] (by rfl) rfl rfl (by (try simp only [List.map_toArray, List.map_cons, List.map_nil]); first | done | rfl | (simp only [List.length_drop, List.length_take]; rfl)) ?_
          with_reducible refine (impl_RingParts.calls k _ _ t236 t240 t241 t242 t243 t244 t245 t246 t247 t248 t249 t250 t251 t252 t253 t254 _ ?side1 ?side2 A15.out).mono ?_
          (case side1 => repeat (first | exact (Kd.S_reads' HO238.out).2.2 | (with_reducible refine Kd.C_alloc ?_ _) | (with_reducible refine Kd.C_drewN ?_ _) | (with_reducible refine Kd.C_drew ?_)))
          (case side2 => exact (Kd.S_reads' HO238.out).2.1)
          rintro e w62 ⟨rfl, hb⟩
          refine ⟨_, rfl, ?_⟩
          replace HO218 := zsb HO218 hb
          replace HO238 := zsb HO238 hb
          replace BK213 := zb0 BK213 hb
          replace BK214 := zb0 BK214 hb
          replace BK234 := zb0 BK234 hb
          replace BK235 := zb0 BK235 hb
          replace BK239 := zb0 BK239 hb
          replace BK255 := zb0 BK255 hb
          replace BK256 := zb0 BK256 hb
          replace HB := zhs HB hb
          (try clear hb)
          (try clear hb2)
          (try clear hk)
          (try clear hi)
          refine hK.out _ _ ⟨zc0 BK239 0 rfl, zc0 BK214 0 rfl, zc0 BK214 1 rfl, zc0 BK214 2 rfl, zc0 BK214 3 rfl, zc0 BK214 4 rfl, zc0 BK214 5 rfl⟩ (fun hHeld => ?_)
          clear hK K
          refine norm_ (a' := ?_) ?_ ?_
          rotate_left
          ·show Act.put _ (some 33) _ = _
           simp only [Act.put, zp1, zp2, zp3, i64_w, i32_w]
           rfl
          refine pure_ (i := 4) (N := some 29) (v := ?_) (a' := ?_) #[true, true, true, true, true, false, false, false, true, true, false, false, false] rfl rfl (any_of HT_.out (by kernel_rfl)) (fun _ _ _ h => h) (Or.inl ⟨by rfl, ?_⟩) ?_ ?_
          rotate_left
          ·intro w'
           go_simp
           with_reducible rfl
          rotate_left
          ·simp only [Act.put, zp1, zp2, zp3, i64_w, i32_w]
           rfl
          refine pure_ (i := 5) (N := some 34) (v := ?_) (a' := ?_) #[true, true, true, true, true, true, false, false, true, true, false, false, false] rfl rfl (any_of HT_.out (by kernel_rfl)) (fun _ _ _ h => h) (Or.inl ⟨by rfl, ?_⟩) ?_ ?_
          rotate_left
          ·intro w'
           go_simp
           with_reducible rfl
          rotate_left
          ·simp only [Act.put, zp1, zp2, zp3, i64_w, i32_w]
           rfl
          refine pure_ (i := 6) (N := some 35) (v := ?_) (a' := ?_) #[true, true, true, true, true, true, true, false, true, true, false, false, false] rfl rfl (any_of HT_.out (by kernel_rfl)) (fun _ _ _ h => h) (Or.inl ⟨by rfl, ?_⟩) ?_ ?_
          rotate_left
          ·intro w'
           go_simp
           with_reducible rfl
          rotate_left
          ·simp only [Act.put, zp1, zp2, zp3, i64_w, i32_w]
           rfl
          refine pure_ (i := 7) (N := some 36) (v := ?_) (a' := ?_) #[true, true, true, true, true, true, true, true, true, true, false, false, false] rfl rfl (any_of HT_.out (by kernel_rfl)) (fun _ _ _ h => h) (Or.inl ⟨by rfl, ?_⟩) ?_ ?_
          rotate_left
          ·intro w'
           go_simp
           with_reducible rfl
          rotate_left
          ·simp only [Act.put, zp1, zp2, zp3, i64_w, i32_w]
           rfl
          exact norm_ (by simp only [putAll, Act.put, zp1, zp2, zp3]; first | done | rfl) (hJ2_3_8_9 (gb255, gb256) _ ⟨hHeld, (zs0 HO218), (zs0 HO238), (zk0 BK213), (zk0 BK214), (zk0 BK234), (zk0 BK235), (zk0 BK239), (zk0 BK255), (zk0 BK256), GW255.out, GE255.out, NB213_255.out, NB255_213.out, NB214_255.out, NB255_214.out, NB234_255.out, NB255_234.out, NB235_255.out, NB255_235.out, NB239_255.out, NB255_239.out, NB256_255.out, NB255_256.out, GW256.out, GE256.out, NB213_256.out, NB256_213.out, NB214_256.out, NB256_214.out, NB234_256.out, NB256_234.out, NB235_256.out, NB256_235.out, NB239_256.out, NB256_239.out, (zh0 HB)⟩)
        ·skip
         rintro gb256 w61 ⟨hS_, h0_, h1_, h2_, h3_, h4_, h5_, h6_, h7_, h8_, h9_, h10_, h11_, h12_, h13_, h14_, h15_, h16_, h17_, h18_, h19_, h20_⟩
         try dsimp only at hS_ h0_ h1_ h2_ h3_ h4_ h5_ h6_ h7_ h8_ h9_ h10_ h11_ h12_ h13_ h14_ h15_ h16_ h17_ h18_ h19_ h20_
         have BK256 := Aside0.mk h7_
         have GW256 := Aside0.mk h8_
         have GE256 := Aside0.mk h9_
         have NB213_256 := Aside0.mk h10_
         have NB256_213 := Aside0.mk h11_
         have NB214_256 := Aside0.mk h12_
         have NB256_214 := Aside0.mk h13_
         have NB234_256 := Aside0.mk h14_
         have NB256_234 := Aside0.mk h15_
         have NB235_256 := Aside0.mk h16_
         have NB256_235 := Aside0.mk h17_
         have NB239_256 := Aside0.mk h18_
         have NB256_239 := Aside0.mk h19_
         replace HO218 := Aside0.mk h0_
         replace HO238 := Aside0.mk h1_
         replace BK213 := Aside0.mk h2_
         replace BK214 := Aside0.mk h3_
         replace BK234 := Aside0.mk h4_
         replace BK235 := Aside0.mk h5_
         replace BK239 := Aside0.mk h6_
         replace HB := Aside0.mk h20_
         clear h0_ h1_ h2_ h3_ h4_ h5_ h6_ h7_ h8_ h9_ h10_ h11_ h12_ h13_ h14_ h15_ h16_ h17_ h18_ h19_ h20_
         have hHeld := hS_
         refine norm_ (a' := ?_) ?_ ?_
         rotate_left
         ·simp only [putAll, Act.put, zp1, zp2, zp3]
          rfl
         refine one_ (i := 8) (N := some 10) #[true, true, true, true, true, true, true, true, true, true, false, false, false] rfl rfl (one_of HT_.out (by kernel_rfl)) (by decide) (fun K hK => ?_)
         refine box_step ?hg (N := 10) ?hd (cs := #[.int .i64 0, .int .i64 0, .int .i64 0, .int .i64 0]) (t := 34) ?hr ?_; (case hd => rfl); (case hg => rfl); (case hr => first | (go_simp; done) | (go_simp; rfl))
         intro gb255 hg w62 hbox hb
         have BK255 := Aside0.mk (hbox)
         have GW255 := zge HB hg
         have GE255 := zge HB hg
         have NB213_255 := znl BK213 hg
         have NB255_213 := znr BK213 hg
         have NB214_255 := znl BK214 hg
         have NB255_214 := znr BK214 hg
         have NB234_255 := znl BK234 hg
         have NB255_234 := znr BK234 hg
         have NB235_255 := znl BK235 hg
         have NB255_235 := znr BK235 hg
         have NB239_255 := znl BK239 hg
         have NB255_239 := znr BK239 hg
         have NB256_255 := znl BK256 hg
         have NB255_256 := znr BK256 hg
         replace HO218 := zsb HO218 hb
         replace HO238 := zsb HO238 hb
         replace BK213 := zb0 BK213 hb
         replace BK214 := zb0 BK214 hb
         replace BK234 := zb0 BK234 hb
         replace BK235 := zb0 BK235 hb
         replace BK239 := zb0 BK239 hb
         replace BK256 := zb0 BK256 hb
         replace HB := zhs HB hb
         clear hb hbox hg
         refine hK.out _ _ ⟨zc0 BK239 0 rfl, zc0 BK214 0 rfl, zc0 BK214 1 rfl, zc0 BK214 2 rfl, zc0 BK214 3 rfl, zc0 BK214 4 rfl, zc0 BK214 5 rfl⟩ (fun hHeld => ?_)
         clear hK K
         refine norm_ (a' := ?_) ?_ ?_
         rotate_left
         ·show Act.put _ (some 10) _ = _
          simp only [Act.put, zp1, zp2, zp3, i64_w, i32_w]
          rfl
         exact norm_ (by simp only [putAll, Act.put, zp1, zp2, zp3]; first | done | rfl) (hJ2_3_8_9 (gb255, gb256) _ ⟨hHeld, (zs0 HO218), (zs0 HO238), (zk0 BK213), (zk0 BK214), (zk0 BK234), (zk0 BK235), (zk0 BK239), (zk0 BK255), (zk0 BK256), GW255.out, GE255.out, NB213_255.out, NB255_213.out, NB214_255.out, NB255_214.out, NB234_255.out, NB255_234.out, NB235_255.out, NB255_235.out, NB239_255.out, NB255_239.out, NB256_255.out, NB255_256.out, GW256.out, GE256.out, NB213_256.out, NB256_213.out, NB214_256.out, NB256_214.out, NB234_256.out, NB256_234.out, NB235_256.out, NB256_235.out, NB239_256.out, NB256_239.out, (zh0 HB)⟩)
       ·skip
        rintro gb255 w61 ⟨hS_, h0_, h1_, h2_, h3_, h4_, h5_, h6_, h7_, h8_, h9_, h10_, h11_, h12_, h13_, h14_, h15_, h16_, h17_, h18_, h19_, h20_⟩
        try dsimp only at hS_ h0_ h1_ h2_ h3_ h4_ h5_ h6_ h7_ h8_ h9_ h10_ h11_ h12_ h13_ h14_ h15_ h16_ h17_ h18_ h19_ h20_
        have BK255 := Aside0.mk h7_
        have GW255 := Aside0.mk h8_
        have GE255 := Aside0.mk h9_
        have NB213_255 := Aside0.mk h10_
        have NB255_213 := Aside0.mk h11_
        have NB214_255 := Aside0.mk h12_
        have NB255_214 := Aside0.mk h13_
        have NB234_255 := Aside0.mk h14_
        have NB255_234 := Aside0.mk h15_
        have NB235_255 := Aside0.mk h16_
        have NB255_235 := Aside0.mk h17_
        have NB239_255 := Aside0.mk h18_
        have NB255_239 := Aside0.mk h19_
        replace HO218 := Aside0.mk h0_
        replace HO238 := Aside0.mk h1_
        replace BK213 := Aside0.mk h2_
        replace BK214 := Aside0.mk h3_
        replace BK234 := Aside0.mk h4_
        replace BK235 := Aside0.mk h5_
        replace BK239 := Aside0.mk h6_
        replace HB := Aside0.mk h20_
        clear h0_ h1_ h2_ h3_ h4_ h5_ h6_ h7_ h8_ h9_ h10_ h11_ h12_ h13_ h14_ h15_ h16_ h17_ h18_ h19_ h20_
        have hHeld := hS_
        refine norm_ (a' := ?_) ?_ ?_
        rotate_left
        ·simp only [putAll, Act.put, zp1, zp2, zp3]
         rfl
        refine one_ (i := 9) (N := some 11) #[true, true, true, true, true, true, true, true, true, true, false, false, false] rfl rfl (one_of HT_.out (by kernel_rfl)) (by decide) (fun K hK => ?_)
        refine box_step ?hg (N := 11) ?hd (cs := #[.int .i64 0, .int .i64 0, .int .i64 0, .int .i64 0]) (t := 34) ?hr ?_; (case hd => rfl); (case hg => rfl); (case hr => first | (go_simp; done) | (go_simp; rfl))
        intro gb256 hg w62 hbox hb
        have BK256 := Aside0.mk (hbox)
        have GW256 := zge HB hg
        have GE256 := zge HB hg
        have NB213_256 := znl BK213 hg
        have NB256_213 := znr BK213 hg
        have NB214_256 := znl BK214 hg
        have NB256_214 := znr BK214 hg
        have NB234_256 := znl BK234 hg
        have NB256_234 := znr BK234 hg
        have NB235_256 := znl BK235 hg
        have NB256_235 := znr BK235 hg
        have NB239_256 := znl BK239 hg
        have NB256_239 := znr BK239 hg
        have NB255_256 := znl BK255 hg
        have NB256_255 := znr BK255 hg
        replace HO218 := zsb HO218 hb
        replace HO238 := zsb HO238 hb
        replace BK213 := zb0 BK213 hb
        replace BK214 := zb0 BK214 hb
        replace BK234 := zb0 BK234 hb
        replace BK235 := zb0 BK235 hb
        replace BK239 := zb0 BK239 hb
        replace BK255 := zb0 BK255 hb
        replace HB := zhs HB hb
        clear hb hbox hg
        refine hK.out _ _ ⟨zc0 BK239 0 rfl, zc0 BK214 0 rfl, zc0 BK214 1 rfl, zc0 BK214 2 rfl, zc0 BK214 3 rfl, zc0 BK214 4 rfl, zc0 BK214 5 rfl⟩ (fun hHeld => ?_)
        clear hK K
        refine norm_ (a' := ?_) ?_ ?_
        rotate_left
        ·show Act.put _ (some 11) _ = _
         simp only [Act.put, zp1, zp2, zp3, i64_w, i32_w]
         rfl
        exact norm_ (by simp only [putAll, Act.put, zp1, zp2, zp3]; first | done | rfl) (hJ2_3_8_9 (gb255, gb256) _ ⟨hHeld, (zs0 HO218), (zs0 HO238), (zk0 BK213), (zk0 BK214), (zk0 BK234), (zk0 BK235), (zk0 BK239), (zk0 BK255), (zk0 BK256), GW255.out, GE255.out, NB213_255.out, NB255_213.out, NB214_255.out, NB255_214.out, NB234_255.out, NB255_234.out, NB235_255.out, NB255_235.out, NB239_255.out, NB255_239.out, NB256_255.out, NB255_256.out, GW256.out, GE256.out, NB213_256.out, NB256_213.out, NB214_256.out, NB256_214.out, NB234_256.out, NB256_234.out, NB235_256.out, NB256_235.out, NB239_256.out, NB256_239.out, (zh0 HB)⟩)
      rintro ⟨gb255, gb256⟩ w62 ⟨hS_, h0_, h1_, h2_, h3_, h4_, h5_, h6_, h7_, h8_, h9_, h10_, h11_, h12_, h13_, h14_, h15_, h16_, h17_, h18_, h19_, h20_, h21_, h22_, h23_, h24_, h25_, h26_, h27_, h28_, h29_, h30_, h31_, h32_, h33_, h34_, h35_⟩
      try dsimp only at hS_ h0_ h1_ h2_ h3_ h4_ h5_ h6_ h7_ h8_ h9_ h10_ h11_ h12_ h13_ h14_ h15_ h16_ h17_ h18_ h19_ h20_ h21_ h22_ h23_ h24_ h25_ h26_ h27_ h28_ h29_ h30_ h31_ h32_ h33_ h34_ h35_
      have BK255 := Aside0.mk h7_
      have BK256 := Aside0.mk h8_
      have GW255 := Aside0.mk h9_
      have GE255 := Aside0.mk h10_
      have NB213_255 := Aside0.mk h11_
      have NB255_213 := Aside0.mk h12_
      have NB214_255 := Aside0.mk h13_
      have NB255_214 := Aside0.mk h14_
      have NB234_255 := Aside0.mk h15_
      have NB255_234 := Aside0.mk h16_
      have NB235_255 := Aside0.mk h17_
      have NB255_235 := Aside0.mk h18_
      have NB239_255 := Aside0.mk h19_
      have NB255_239 := Aside0.mk h20_
      have NB256_255 := Aside0.mk h21_
      have NB255_256 := Aside0.mk h22_
      have GW256 := Aside0.mk h23_
      have GE256 := Aside0.mk h24_
      have NB213_256 := Aside0.mk h25_
      have NB256_213 := Aside0.mk h26_
      have NB214_256 := Aside0.mk h27_
      have NB256_214 := Aside0.mk h28_
      have NB234_256 := Aside0.mk h29_
      have NB256_234 := Aside0.mk h30_
      have NB235_256 := Aside0.mk h31_
      have NB256_235 := Aside0.mk h32_
      have NB239_256 := Aside0.mk h33_
      have NB256_239 := Aside0.mk h34_
      replace HO218 := Aside0.mk h0_
      replace HO238 := Aside0.mk h1_
      replace BK213 := Aside0.mk h2_
      replace BK214 := Aside0.mk h3_
      replace BK234 := Aside0.mk h4_
      replace BK235 := Aside0.mk h5_
      replace BK239 := Aside0.mk h6_
      replace HB := Aside0.mk h35_
      clear h0_ h1_ h2_ h3_ h4_ h5_ h6_ h7_ h8_ h9_ h10_ h11_ h12_ h13_ h14_ h15_ h16_ h17_ h18_ h19_ h20_ h21_ h22_ h23_ h24_ h25_ h26_ h27_ h28_ h29_ h30_ h31_ h32_ h33_ h34_ h35_
      have hHeld := hS_
      refine norm_ (a' := ?_) ?_ ?_
      rotate_left
      ·simp only [putAll, Act.put, zp1, zp2, zp3]
       rfl
      refine one_ (i := 10) (N := none) #[true, true, true, true, true, true, true, true, true, true, true, false, false] rfl rfl (one_of HT_.out (by kernel_rfl)) (by decide) (fun K hK => ?_)
      have hs63 : w62.cell? ⟨gb255, 0, none⟩ = some (.int .i64 0) := zc0 BK255 0 rfl
      have hfs63 := blk_frozen BK255.out 0
      have hns63_0 := NB213_255.out
      have hns63_1 := NB214_255.out
      have hns63_2 := NB234_255.out
      have hns63_3 := NB235_255.out
      have hns63_4 := NB239_255.out
      have hns63_6 := NB256_255.out
      have hms63_0 := NB255_213.out
      have hms63_1 := NB255_214.out
      have hms63_2 := NB255_234.out
      have hms63_3 := NB255_235.out
      have hms63_4 := NB255_239.out
      have hms63_6 := NB255_256.out
      have hs64 : w62.cell? ⟨gb255, 1, none⟩ = some (.int .i64 0) := zc0 BK255 1 rfl
      have hfs64 := blk_frozen BK255.out 1
      have hns64_0 := NB213_255.out
      have hns64_1 := NB214_255.out
      have hns64_2 := NB234_255.out
      have hns64_3 := NB235_255.out
      have hns64_4 := NB239_255.out
      have hns64_6 := NB256_255.out
      have hms64_0 := NB255_213.out
      have hms64_1 := NB255_214.out
      have hms64_2 := NB255_234.out
      have hms64_3 := NB255_235.out
      have hms64_4 := NB255_239.out
      have hms64_6 := NB255_256.out
      have hs65 : w62.cell? ⟨gb255, 2, none⟩ = some (.int .i64 0) := zc0 BK255 2 rfl
      have hfs65 := blk_frozen BK255.out 2
      have hns65_0 := NB213_255.out
      have hns65_1 := NB214_255.out
      have hns65_2 := NB234_255.out
      have hns65_3 := NB235_255.out
      have hns65_4 := NB239_255.out
      have hns65_6 := NB256_255.out
      have hms65_0 := NB255_213.out
      have hms65_1 := NB255_214.out
      have hms65_2 := NB255_234.out
      have hms65_3 := NB255_235.out
      have hms65_4 := NB255_239.out
      have hms65_6 := NB255_256.out
      have hs66 : w62.cell? ⟨gb255, 3, none⟩ = some (.int .i64 0) := zc0 BK255 3 rfl
      have hfs66 := blk_frozen BK255.out 3
      have hns66_0 := NB213_255.out
      have hns66_1 := NB214_255.out
      have hns66_2 := NB234_255.out
      have hns66_3 := NB235_255.out
      have hns66_4 := NB239_255.out
      have hns66_6 := NB256_255.out
      have hms66_0 := NB255_213.out
      have hms66_1 := NB255_214.out
      have hms66_2 := NB255_234.out
      have hms66_3 := NB255_235.out
      have hms66_4 := NB255_239.out
      have hms66_6 := NB255_256.out
      refine skip_ (w1 := ?_) (by rfl) rfl ?_ ?_
      rotate_left
      ·go_simp
       rfl
      refine hK.out _ _ ⟨((cell_far (p := ⟨gb255, _, none⟩) NB239_255.out _).trans (((cell_far (p := ⟨gb255, _, none⟩) NB239_255.out _).trans (((cell_far (p := ⟨gb255, _, none⟩) NB239_255.out _).trans (((cell_far (p := ⟨gb255, _, none⟩) NB239_255.out _).trans (hHeld.1)))))))), ((cell_far (p := ⟨gb255, _, none⟩) NB214_255.out _).trans (((cell_far (p := ⟨gb255, _, none⟩) NB214_255.out _).trans (((cell_far (p := ⟨gb255, _, none⟩) NB214_255.out _).trans (((cell_far (p := ⟨gb255, _, none⟩) NB214_255.out _).trans (hHeld.2.1)))))))), ((cell_far (p := ⟨gb255, _, none⟩) NB214_255.out _).trans (((cell_far (p := ⟨gb255, _, none⟩) NB214_255.out _).trans (((cell_far (p := ⟨gb255, _, none⟩) NB214_255.out _).trans (((cell_far (p := ⟨gb255, _, none⟩) NB214_255.out _).trans (hHeld.2.2.1)))))))), ((cell_far (p := ⟨gb255, _, none⟩) NB214_255.out _).trans (((cell_far (p := ⟨gb255, _, none⟩) NB214_255.out _).trans (((cell_far (p := ⟨gb255, _, none⟩) NB214_255.out _).trans (((cell_far (p := ⟨gb255, _, none⟩) NB214_255.out _).trans (hHeld.2.2.2.1)))))))), ((cell_far (p := ⟨gb255, _, none⟩) NB214_255.out _).trans (((cell_far (p := ⟨gb255, _, none⟩) NB214_255.out _).trans (((cell_far (p := ⟨gb255, _, none⟩) NB214_255.out _).trans (((cell_far (p := ⟨gb255, _, none⟩) NB214_255.out _).trans (hHeld.2.2.2.2.1)))))))), ((cell_far (p := ⟨gb255, _, none⟩) NB214_255.out _).trans (((cell_far (p := ⟨gb255, _, none⟩) NB214_255.out _).trans (((cell_far (p := ⟨gb255, _, none⟩) NB214_255.out _).trans (((cell_far (p := ⟨gb255, _, none⟩) NB214_255.out _).trans (hHeld.2.2.2.2.2.1)))))))), ((cell_far (p := ⟨gb255, _, none⟩) NB214_255.out _).trans (((cell_far (p := ⟨gb255, _, none⟩) NB214_255.out _).trans (((cell_far (p := ⟨gb255, _, none⟩) NB214_255.out _).trans (((cell_far (p := ⟨gb255, _, none⟩) NB214_255.out _).trans (hHeld.2.2.2.2.2.2))))))))⟩ (fun hHeld => ?_)
      clear hK K
      refine one_ (i := 11) (N := none) #[true, true, true, true, true, true, true, true, true, true, true, true, false] rfl rfl (one_of HT_.out (by kernel_rfl)) (by decide) (fun K hK => ?_)
      have hs67 : w62.cell? ⟨gb256, 0, none⟩ = some (.int .i64 0) := zc0 BK256 0 rfl
      have hfs67 := blk_frozen BK256.out 0
      have hns67_0 := NB213_256.out
      have hns67_1 := NB214_256.out
      have hns67_2 := NB234_256.out
      have hns67_3 := NB235_256.out
      have hns67_4 := NB239_256.out
      have hns67_5 := NB255_256.out
      have hms67_0 := NB256_213.out
      have hms67_1 := NB256_214.out
      have hms67_2 := NB256_234.out
      have hms67_3 := NB256_235.out
      have hms67_4 := NB256_239.out
      have hms67_5 := NB256_255.out
      have hs68 : w62.cell? ⟨gb256, 1, none⟩ = some (.int .i64 0) := zc0 BK256 1 rfl
      have hfs68 := blk_frozen BK256.out 1
      have hns68_0 := NB213_256.out
      have hns68_1 := NB214_256.out
      have hns68_2 := NB234_256.out
      have hns68_3 := NB235_256.out
      have hns68_4 := NB239_256.out
      have hns68_5 := NB255_256.out
      have hms68_0 := NB256_213.out
      have hms68_1 := NB256_214.out
      have hms68_2 := NB256_234.out
      have hms68_3 := NB256_235.out
      have hms68_4 := NB256_239.out
      have hms68_5 := NB256_255.out
      have hs69 : w62.cell? ⟨gb256, 2, none⟩ = some (.int .i64 0) := zc0 BK256 2 rfl
      have hfs69 := blk_frozen BK256.out 2
      have hns69_0 := NB213_256.out
      have hns69_1 := NB214_256.out
      have hns69_2 := NB234_256.out
      have hns69_3 := NB235_256.out
      have hns69_4 := NB239_256.out
      have hns69_5 := NB255_256.out
      have hms69_0 := NB256_213.out
      have hms69_1 := NB256_214.out
      have hms69_2 := NB256_234.out
      have hms69_3 := NB256_235.out
      have hms69_4 := NB256_239.out
      have hms69_5 := NB256_255.out
      have hs70 : w62.cell? ⟨gb256, 3, none⟩ = some (.int .i64 0) := zc0 BK256 3 rfl
      have hfs70 := blk_frozen BK256.out 3
      have hns70_0 := NB213_256.out
      have hns70_1 := NB214_256.out
      have hns70_2 := NB234_256.out
      have hns70_3 := NB235_256.out
      have hns70_4 := NB239_256.out
      have hns70_5 := NB255_256.out
      have hms70_0 := NB256_213.out
      have hms70_1 := NB256_214.out
      have hms70_2 := NB256_234.out
      have hms70_3 := NB256_235.out
      have hms70_4 := NB256_239.out
      have hms70_5 := NB256_255.out
      refine skip_ (w1 := ?_) (by rfl) rfl ?_ ?_
      rotate_left
      ·go_simp
       rfl
      refine hK.out _ _ ⟨((cell_far (p := ⟨gb256, _, none⟩) NB239_256.out _).trans (((cell_far (p := ⟨gb256, _, none⟩) NB239_256.out _).trans (((cell_far (p := ⟨gb256, _, none⟩) NB239_256.out _).trans (((cell_far (p := ⟨gb256, _, none⟩) NB239_256.out _).trans (hHeld.1)))))))), ((cell_far (p := ⟨gb256, _, none⟩) NB214_256.out _).trans (((cell_far (p := ⟨gb256, _, none⟩) NB214_256.out _).trans (((cell_far (p := ⟨gb256, _, none⟩) NB214_256.out _).trans (((cell_far (p := ⟨gb256, _, none⟩) NB214_256.out _).trans (hHeld.2.1)))))))), ((cell_far (p := ⟨gb256, _, none⟩) NB214_256.out _).trans (((cell_far (p := ⟨gb256, _, none⟩) NB214_256.out _).trans (((cell_far (p := ⟨gb256, _, none⟩) NB214_256.out _).trans (((cell_far (p := ⟨gb256, _, none⟩) NB214_256.out _).trans (hHeld.2.2.1)))))))), ((cell_far (p := ⟨gb256, _, none⟩) NB214_256.out _).trans (((cell_far (p := ⟨gb256, _, none⟩) NB214_256.out _).trans (((cell_far (p := ⟨gb256, _, none⟩) NB214_256.out _).trans (((cell_far (p := ⟨gb256, _, none⟩) NB214_256.out _).trans (hHeld.2.2.2.1)))))))), ((cell_far (p := ⟨gb256, _, none⟩) NB214_256.out _).trans (((cell_far (p := ⟨gb256, _, none⟩) NB214_256.out _).trans (((cell_far (p := ⟨gb256, _, none⟩) NB214_256.out _).trans (((cell_far (p := ⟨gb256, _, none⟩) NB214_256.out _).trans (hHeld.2.2.2.2.1)))))))), ((cell_far (p := ⟨gb256, _, none⟩) NB214_256.out _).trans (((cell_far (p := ⟨gb256, _, none⟩) NB214_256.out _).trans (((cell_far (p := ⟨gb256, _, none⟩) NB214_256.out _).trans (((cell_far (p := ⟨gb256, _, none⟩) NB214_256.out _).trans (hHeld.2.2.2.2.2.1)))))))), ((cell_far (p := ⟨gb256, _, none⟩) NB214_256.out _).trans (((cell_far (p := ⟨gb256, _, none⟩) NB214_256.out _).trans (((cell_far (p := ⟨gb256, _, none⟩) NB214_256.out _).trans (((cell_far (p := ⟨gb256, _, none⟩) NB214_256.out _).trans (hHeld.2.2.2.2.2.2))))))))⟩ (fun hHeld => ?_)
      clear hK K
      refine pure_ (i := 12) (N := some 12) (v := ?_) (a' := ?_) #[true, true, true, true, true, true, true, true, true, true, true, true, true] rfl rfl (any_of HT_.out (by kernel_rfl)) (fun _ _ _ h => h) (Or.inl ⟨by rfl, ?_⟩) ?_ ?_
      rotate_left
      ·intro w'
       go_simp
       with_reducible rfl
      rotate_left
      ·simp only [Act.put, zp1, zp2, zp3, i64_w, i32_w]
       rfl
      refine done_ (done_of HT_.out (by kernel_rfl)) ?_
      have hnb71 := NB255_213.out
      have hnc71 := NB213_255.out
      have hnb72 := NB255_214.out
      have hnc72 := NB214_255.out
      have hnb73 := NB255_234.out
      have hnc73 := NB234_255.out
      have hnb74 := NB255_235.out
      have hnc74 := NB235_255.out
      have hnb75 := NB255_239.out
      have hnc75 := NB239_255.out
      have hnb76 := NB255_256.out
      have hnc76 := NB256_255.out
      have hcz77_0 : w62.cell? ⟨gb255, 0, none⟩ = some (.int .i64 0) := zc0 BK255 0 rfl
      have hcz77_1 : w62.cell? ⟨gb255, 1, none⟩ = some (.int .i64 0) := zc0 BK255 1 rfl
      have hcz77_2 : w62.cell? ⟨gb255, 2, none⟩ = some (.int .i64 0) := zc0 BK255 2 rfl
      have hcz77_3 : w62.cell? ⟨gb255, 3, none⟩ = some (.int .i64 0) := zc0 BK255 3 rfl
      have hfz77_0 := blk_frozen BK255.out 0
      have hfz77_1 := blk_frozen BK255.out 1
      have hfz77_2 := blk_frozen BK255.out 2
      have hfz77_3 := blk_frozen BK255.out 3
      have hnb78 := NB234_214.out
      have hnc78 := NB214_234.out
      have hnb79 := NB234_235.out
      have hnc79 := NB235_234.out
      have hnb80 := NB234_256.out
      have hnc80 := NB256_234.out
      have hcz81_0 : w62.cell? ⟨gb234, 0, none⟩ = some (.int .i64 t225) := zc0 BK234 0 rfl
      have hcz81_1 : w62.cell? ⟨gb234, 1, none⟩ = some (.int .i64 t226) := zc0 BK234 1 rfl
      have hcz81_2 : w62.cell? ⟨gb234, 2, none⟩ = some (.int .i64 t227) := zc0 BK234 2 rfl
      have hcz81_3 : w62.cell? ⟨gb234, 3, none⟩ = some (.int .i64 t228) := zc0 BK234 3 rfl
      have hfz81_0 := blk_frozen BK234.out 0
      have hfz81_1 := blk_frozen BK234.out 1
      have hfz81_2 := blk_frozen BK234.out 2
      have hfz81_3 := blk_frozen BK234.out 3
      try go_wp2_with (first | ((with_reducible refine gate_callee (f := 35) rfl ?_); refine goesL_ (some 39) rfl rfl Try.func35 (by kernel_rfl) rfl #[.agg #[.int .i64 t246, .int .i64 t247, .int .i64 t248, .int .i64 t249], .agg #[.int .i64 t225, .int .i64 t226, .int .i64 t227, .int .i64 t228]] rfl (by (try simp only [List.map_toArray, List.map_cons, List.map_nil]); first | done | rfl | (simp only [List.length_drop, List.length_take]; rfl)) ?_; (with_reducible refine (laws_eqWindow.calls t246 t247 t248 t249 t225 t226 t227 t228 true _ A16.out).mono ?_); rintro e w82 ⟨rfl, hb⟩; refine ⟨_, rfl, ?_⟩; have n0_ := Aside0.mk (Kd.S_below (by (with_reducible repeat (first | apply Kd.S_alloc | apply Kd.S_drewN | apply Kd.S_drew)); exact (Kd.S_mono (Kd.S_mono (Kd.S_far (p := ⟨gb256, 3, none⟩) (Kd.S_far (p := ⟨gb256, 2, none⟩) (Kd.S_far (p := ⟨gb256, 1, none⟩) (Kd.S_far (p := ⟨gb256, 0, none⟩) (Kd.S_far (p := ⟨gb255, 3, none⟩) (Kd.S_far (p := ⟨gb255, 2, none⟩) (Kd.S_far (p := ⟨gb255, 1, none⟩) (Kd.S_far (p := ⟨gb255, 0, none⟩) (Kd.S_types (Kd.S_types HO218.out BK255.out (by decide)) BK256.out (by decide)) (fun _ hk => hk.1.2) (.int .i64 t246)) (fun _ hk => hk.1.2) (.int .i64 t247)) (fun _ hk => hk.1.2) (.int .i64 t248)) (fun _ hk => hk.1.2) (.int .i64 t249)) (fun _ hk => hk.2) (.int .i64 t250)) (fun _ hk => hk.2) (.int .i64 t251)) (fun _ hk => hk.2) (.int .i64 t252)) (fun _ hk => hk.2) (.int .i64 t253)) (fun _ h_ => h_.1)) (fun _ h_ => h_.1))) hb); have n1_ := Aside0.mk (Kd.S_below (by (with_reducible repeat (first | apply Kd.S_alloc | apply Kd.S_drewN | apply Kd.S_drew)); exact (Kd.S_mono (Kd.S_mono (Kd.S_far (p := ⟨gb256, 3, none⟩) (Kd.S_far (p := ⟨gb256, 2, none⟩) (Kd.S_far (p := ⟨gb256, 1, none⟩) (Kd.S_far (p := ⟨gb256, 0, none⟩) (Kd.S_far (p := ⟨gb255, 3, none⟩) (Kd.S_far (p := ⟨gb255, 2, none⟩) (Kd.S_far (p := ⟨gb255, 1, none⟩) (Kd.S_far (p := ⟨gb255, 0, none⟩) (Kd.S_types (Kd.S_types HO238.out BK255.out (by decide)) BK256.out (by decide)) (fun _ hk => hk.1.2) (.int .i64 t246)) (fun _ hk => hk.1.2) (.int .i64 t247)) (fun _ hk => hk.1.2) (.int .i64 t248)) (fun _ hk => hk.1.2) (.int .i64 t249)) (fun _ hk => hk.2) (.int .i64 t250)) (fun _ hk => hk.2) (.int .i64 t251)) (fun _ hk => hk.2) (.int .i64 t252)) (fun _ hk => hk.2) (.int .i64 t253)) (fun _ h_ => h_.1)) (fun _ h_ => h_.1))) hb); have n2_ := Aside0.mk (blk_below (g := gb213) (o := .cells #[.slice A0_0 l0_0.length c0_0] 24 (0, 0)) (by (with_reducible repeat (first | refine blk_drewN ?_ _ | refine blk_drew ?_ | refine blk_alloc ?_ _)); refine blk_far ?_ NB213_256.out _; (with_reducible repeat (first | refine blk_drewN ?_ _ | refine blk_drew ?_ | refine blk_alloc ?_ _)); refine blk_far ?_ NB213_256.out _; (with_reducible repeat (first | refine blk_drewN ?_ _ | refine blk_drew ?_ | refine blk_alloc ?_ _)); refine blk_far ?_ NB213_256.out _; (with_reducible repeat (first | refine blk_drewN ?_ _ | refine blk_drew ?_ | refine blk_alloc ?_ _)); refine blk_far ?_ NB213_256.out _; (with_reducible repeat (first | refine blk_drewN ?_ _ | refine blk_drew ?_ | refine blk_alloc ?_ _)); refine blk_far ?_ NB213_255.out _; (with_reducible repeat (first | refine blk_drewN ?_ _ | refine blk_drew ?_ | refine blk_alloc ?_ _)); refine blk_far ?_ NB213_255.out _; (with_reducible repeat (first | refine blk_drewN ?_ _ | refine blk_drew ?_ | refine blk_alloc ?_ _)); refine blk_far ?_ NB213_255.out _; (with_reducible repeat (first | refine blk_drewN ?_ _ | refine blk_drew ?_ | refine blk_alloc ?_ _)); refine blk_far ?_ NB213_255.out _; (with_reducible repeat (first | refine blk_drewN ?_ _ | refine blk_drew ?_ | refine blk_alloc ?_ _)); exact BK213.out) hb); have n3_ := Aside0.mk (blk_below (g := gb214) (o := .cells #[.int .i64 a1_0, .int .i64 a1_1, .int .i64 a1_2, .int .i64 a1_3, .int .i64 a1_4, .int .i64 a1_5] 28 (0, 0)) (by (with_reducible repeat (first | refine blk_drewN ?_ _ | refine blk_drew ?_ | refine blk_alloc ?_ _)); refine blk_far ?_ NB214_256.out _; (with_reducible repeat (first | refine blk_drewN ?_ _ | refine blk_drew ?_ | refine blk_alloc ?_ _)); refine blk_far ?_ NB214_256.out _; (with_reducible repeat (first | refine blk_drewN ?_ _ | refine blk_drew ?_ | refine blk_alloc ?_ _)); refine blk_far ?_ NB214_256.out _; (with_reducible repeat (first | refine blk_drewN ?_ _ | refine blk_drew ?_ | refine blk_alloc ?_ _)); refine blk_far ?_ NB214_256.out _; (with_reducible repeat (first | refine blk_drewN ?_ _ | refine blk_drew ?_ | refine blk_alloc ?_ _)); refine blk_far ?_ NB214_255.out _; (with_reducible repeat (first | refine blk_drewN ?_ _ | refine blk_drew ?_ | refine blk_alloc ?_ _)); refine blk_far ?_ NB214_255.out _; (with_reducible repeat (first | refine blk_drewN ?_ _ | refine blk_drew ?_ | refine blk_alloc ?_ _)); refine blk_far ?_ NB214_255.out _; (with_reducible repeat (first | refine blk_drewN ?_ _ | refine blk_drew ?_ | refine blk_alloc ?_ _)); refine blk_far ?_ NB214_255.out _; (with_reducible repeat (first | refine blk_drewN ?_ _ | refine blk_drew ?_ | refine blk_alloc ?_ _)); exact BK214.out) hb); have n4_ := Aside0.mk (blk_below (g := gb234) (o := .cells #[.int .i64 t225, .int .i64 t226, .int .i64 t227, .int .i64 t228] 34 (0, 0)) (by (with_reducible repeat (first | refine blk_drewN ?_ _ | refine blk_drew ?_ | refine blk_alloc ?_ _)); refine blk_far ?_ NB234_256.out _; (with_reducible repeat (first | refine blk_drewN ?_ _ | refine blk_drew ?_ | refine blk_alloc ?_ _)); refine blk_far ?_ NB234_256.out _; (with_reducible repeat (first | refine blk_drewN ?_ _ | refine blk_drew ?_ | refine blk_alloc ?_ _)); refine blk_far ?_ NB234_256.out _; (with_reducible repeat (first | refine blk_drewN ?_ _ | refine blk_drew ?_ | refine blk_alloc ?_ _)); refine blk_far ?_ NB234_256.out _; (with_reducible repeat (first | refine blk_drewN ?_ _ | refine blk_drew ?_ | refine blk_alloc ?_ _)); refine blk_far ?_ NB234_255.out _; (with_reducible repeat (first | refine blk_drewN ?_ _ | refine blk_drew ?_ | refine blk_alloc ?_ _)); refine blk_far ?_ NB234_255.out _; (with_reducible repeat (first | refine blk_drewN ?_ _ | refine blk_drew ?_ | refine blk_alloc ?_ _)); refine blk_far ?_ NB234_255.out _; (with_reducible repeat (first | refine blk_drewN ?_ _ | refine blk_drew ?_ | refine blk_alloc ?_ _)); refine blk_far ?_ NB234_255.out _; (with_reducible repeat (first | refine blk_drewN ?_ _ | refine blk_drew ?_ | refine blk_alloc ?_ _)); exact BK234.out) hb); have n5_ := Aside0.mk (blk_below (g := gb235) (o := .cells #[.int .i64 t229, .int .i64 t230, .int .i64 t231, .int .i64 t232] 34 (0, 0)) (by (with_reducible repeat (first | refine blk_drewN ?_ _ | refine blk_drew ?_ | refine blk_alloc ?_ _)); refine blk_far ?_ NB235_256.out _; (with_reducible repeat (first | refine blk_drewN ?_ _ | refine blk_drew ?_ | refine blk_alloc ?_ _)); refine blk_far ?_ NB235_256.out _; (with_reducible repeat (first | refine blk_drewN ?_ _ | refine blk_drew ?_ | refine blk_alloc ?_ _)); refine blk_far ?_ NB235_256.out _; (with_reducible repeat (first | refine blk_drewN ?_ _ | refine blk_drew ?_ | refine blk_alloc ?_ _)); refine blk_far ?_ NB235_256.out _; (with_reducible repeat (first | refine blk_drewN ?_ _ | refine blk_drew ?_ | refine blk_alloc ?_ _)); refine blk_far ?_ NB235_255.out _; (with_reducible repeat (first | refine blk_drewN ?_ _ | refine blk_drew ?_ | refine blk_alloc ?_ _)); refine blk_far ?_ NB235_255.out _; (with_reducible repeat (first | refine blk_drewN ?_ _ | refine blk_drew ?_ | refine blk_alloc ?_ _)); refine blk_far ?_ NB235_255.out _; (with_reducible repeat (first | refine blk_drewN ?_ _ | refine blk_drew ?_ | refine blk_alloc ?_ _)); refine blk_far ?_ NB235_255.out _; (with_reducible repeat (first | refine blk_drewN ?_ _ | refine blk_drew ?_ | refine blk_alloc ?_ _)); exact BK235.out) hb); have n6_ := Aside0.mk (blk_below (g := gb239) (o := .cells #[.slice Ao50 t236.length co50] 32 (0, 0)) (by (with_reducible repeat (first | refine blk_drewN ?_ _ | refine blk_drew ?_ | refine blk_alloc ?_ _)); refine blk_far ?_ NB239_256.out _; (with_reducible repeat (first | refine blk_drewN ?_ _ | refine blk_drew ?_ | refine blk_alloc ?_ _)); refine blk_far ?_ NB239_256.out _; (with_reducible repeat (first | refine blk_drewN ?_ _ | refine blk_drew ?_ | refine blk_alloc ?_ _)); refine blk_far ?_ NB239_256.out _; (with_reducible repeat (first | refine blk_drewN ?_ _ | refine blk_drew ?_ | refine blk_alloc ?_ _)); refine blk_far ?_ NB239_256.out _; (with_reducible repeat (first | refine blk_drewN ?_ _ | refine blk_drew ?_ | refine blk_alloc ?_ _)); refine blk_far ?_ NB239_255.out _; (with_reducible repeat (first | refine blk_drewN ?_ _ | refine blk_drew ?_ | refine blk_alloc ?_ _)); refine blk_far ?_ NB239_255.out _; (with_reducible repeat (first | refine blk_drewN ?_ _ | refine blk_drew ?_ | refine blk_alloc ?_ _)); refine blk_far ?_ NB239_255.out _; (with_reducible repeat (first | refine blk_drewN ?_ _ | refine blk_drew ?_ | refine blk_alloc ?_ _)); refine blk_far ?_ NB239_255.out _; (with_reducible repeat (first | refine blk_drewN ?_ _ | refine blk_drew ?_ | refine blk_alloc ?_ _)); exact BK239.out) hb); have n7_ := Aside0.mk (blk_below (g := gb255) (o := .cells #[.int .i64 t246, .int .i64 t247, .int .i64 t248, .int .i64 t249] 34 (0, 0)) (by (with_reducible repeat (first | refine blk_drewN ?_ _ | refine blk_drew ?_ | refine blk_alloc ?_ _)); refine blk_far ?_ NB255_256.out _; (with_reducible repeat (first | refine blk_drewN ?_ _ | refine blk_drew ?_ | refine blk_alloc ?_ _)); refine blk_far ?_ NB255_256.out _; (with_reducible repeat (first | refine blk_drewN ?_ _ | refine blk_drew ?_ | refine blk_alloc ?_ _)); refine blk_far ?_ NB255_256.out _; (with_reducible repeat (first | refine blk_drewN ?_ _ | refine blk_drew ?_ | refine blk_alloc ?_ _)); refine blk_far ?_ NB255_256.out _; (with_reducible repeat (first | refine blk_drewN ?_ _ | refine blk_drew ?_ | refine blk_alloc ?_ _)); refine blk_put (cs := #[.int .i64 t246, .int .i64 t247, .int .i64 t248, .int .i64 0]) ?_ 3 _ rfl; (with_reducible repeat (first | refine blk_drewN ?_ _ | refine blk_drew ?_ | refine blk_alloc ?_ _)); refine blk_put (cs := #[.int .i64 t246, .int .i64 t247, .int .i64 0, .int .i64 0]) ?_ 2 _ rfl; (with_reducible repeat (first | refine blk_drewN ?_ _ | refine blk_drew ?_ | refine blk_alloc ?_ _)); refine blk_put (cs := #[.int .i64 t246, .int .i64 0, .int .i64 0, .int .i64 0]) ?_ 1 _ rfl; (with_reducible repeat (first | refine blk_drewN ?_ _ | refine blk_drew ?_ | refine blk_alloc ?_ _)); refine blk_put (cs := #[.int .i64 0, .int .i64 0, .int .i64 0, .int .i64 0]) ?_ 0 _ rfl; (with_reducible repeat (first | refine blk_drewN ?_ _ | refine blk_drew ?_ | refine blk_alloc ?_ _)); exact BK255.out) hb); have n8_ := Aside0.mk (blk_below (g := gb256) (o := .cells #[.int .i64 t250, .int .i64 t251, .int .i64 t252, .int .i64 t253] 34 (0, 0)) (by (with_reducible repeat (first | refine blk_drewN ?_ _ | refine blk_drew ?_ | refine blk_alloc ?_ _)); refine blk_put (cs := #[.int .i64 t250, .int .i64 t251, .int .i64 t252, .int .i64 0]) ?_ 3 _ rfl; (with_reducible repeat (first | refine blk_drewN ?_ _ | refine blk_drew ?_ | refine blk_alloc ?_ _)); refine blk_put (cs := #[.int .i64 t250, .int .i64 t251, .int .i64 0, .int .i64 0]) ?_ 2 _ rfl; (with_reducible repeat (first | refine blk_drewN ?_ _ | refine blk_drew ?_ | refine blk_alloc ?_ _)); refine blk_put (cs := #[.int .i64 t250, .int .i64 0, .int .i64 0, .int .i64 0]) ?_ 1 _ rfl; (with_reducible repeat (first | refine blk_drewN ?_ _ | refine blk_drew ?_ | refine blk_alloc ?_ _)); refine blk_put (cs := #[.int .i64 0, .int .i64 0, .int .i64 0, .int .i64 0]) ?_ 0 _ rfl; (with_reducible repeat (first | refine blk_drewN ?_ _ | refine blk_drew ?_ | refine blk_alloc ?_ _)); refine blk_far ?_ NB256_255.out _; (with_reducible repeat (first | refine blk_drewN ?_ _ | refine blk_drew ?_ | refine blk_alloc ?_ _)); refine blk_far ?_ NB256_255.out _; (with_reducible repeat (first | refine blk_drewN ?_ _ | refine blk_drew ?_ | refine blk_alloc ?_ _)); refine blk_far ?_ NB256_255.out _; (with_reducible repeat (first | refine blk_drewN ?_ _ | refine blk_drew ?_ | refine blk_alloc ?_ _)); refine blk_far ?_ NB256_255.out _; (with_reducible repeat (first | refine blk_drewN ?_ _ | refine blk_drew ?_ | refine blk_alloc ?_ _)); exact BK256.out) hb); have n9_ := Aside0.mk (below_step (by repeat (first | (with_reducible first | exact HB.out | apply below_alloc | apply pw_below_drewN | apply below_drew1 | refine below_set ?_ GE213.out | refine below_set ?_ GE214.out | refine below_set ?_ GE234.out | refine below_set ?_ GE235.out | refine below_set ?_ GE239.out | refine below_set ?_ GE255.out | refine below_set ?_ GE256.out) | exact HB.out)) hb); clear HO218; clear HO238; clear BK213; clear BK214; clear BK234; clear BK235; clear BK239; clear BK255; clear BK256; clear HB; have HO218 := n0_; have HO238 := n1_; have BK213 := n2_; have BK214 := n3_; have BK234 := n4_; have BK235 := n5_; have BK239 := n6_; have BK255 := n7_; have BK256 := n8_; have HB := n9_; clear n0_ n1_ n2_ n3_ n4_ n5_ n6_ n7_ n8_ n9_; (try clear hb); (try clear hb2); (try clear hk); (try clear hi); have hnb83 := NB256_213.out; have hnc83 := NB213_256.out; have hnb84 := NB256_214.out; have hnc84 := NB214_256.out; have hnb85 := NB256_235.out; have hnc85 := NB235_256.out; have hnb86 := NB256_239.out; have hnc86 := NB239_256.out; have hcz87_0 : w82.cell? ⟨gb256, 0, none⟩ = some (.int .i64 t250) := zc0 BK256 0 rfl; have hcz87_1 : w82.cell? ⟨gb256, 1, none⟩ = some (.int .i64 t251) := zc0 BK256 1 rfl; have hcz87_2 : w82.cell? ⟨gb256, 2, none⟩ = some (.int .i64 t252) := zc0 BK256 2 rfl; have hcz87_3 : w82.cell? ⟨gb256, 3, none⟩ = some (.int .i64 t253) := zc0 BK256 3 rfl; have hfz87_0 := blk_frozen BK256.out 0; have hfz87_1 := blk_frozen BK256.out 1; have hfz87_2 := blk_frozen BK256.out 2; have hfz87_3 := blk_frozen BK256.out 3; have hnb88 := NB235_214.out; have hnc88 := NB214_235.out; have hcz89_0 : w82.cell? ⟨gb235, 0, none⟩ = some (.int .i64 t229) := zc0 BK235 0 rfl; have hcz89_1 : w82.cell? ⟨gb235, 1, none⟩ = some (.int .i64 t230) := zc0 BK235 1 rfl; have hcz89_2 : w82.cell? ⟨gb235, 2, none⟩ = some (.int .i64 t231) := zc0 BK235 2 rfl; have hcz89_3 : w82.cell? ⟨gb235, 3, none⟩ = some (.int .i64 t232) := zc0 BK235 3 rfl; have hfz89_0 := blk_frozen BK235.out 0; have hfz89_1 := blk_frozen BK235.out 1; have hfz89_2 := blk_frozen BK235.out 2; have hfz89_3 := blk_frozen BK235.out 3) | (go_at_call 35; (with_reducible refine (laws_eqWindow.calls t250 t251 t252 t253 t229 t230 t231 t232 true _ A18.out).mono ?_); rintro e w90 ⟨rfl, hb⟩; have n0_ := zsb HO218 hb; have n1_ := zsb HO238 hb; have n2_ := Aside0.mk (blk_below (g := gb213) (o := .cells #[.slice A0_0 l0_0.length c0_0] 24 (0, 0)) (by (with_reducible repeat (first | refine blk_drewN ?_ _ | refine blk_drew ?_ | refine blk_alloc ?_ _)); exact BK213.out) hb); have n3_ := Aside0.mk (blk_below (g := gb214) (o := .cells #[.int .i64 a1_0, .int .i64 a1_1, .int .i64 a1_2, .int .i64 a1_3, .int .i64 a1_4, .int .i64 a1_5] 28 (0, 0)) (by (with_reducible repeat (first | refine blk_drewN ?_ _ | refine blk_drew ?_ | refine blk_alloc ?_ _)); exact BK214.out) hb); have n4_ := Aside0.mk (blk_below (g := gb234) (o := .cells #[.int .i64 t225, .int .i64 t226, .int .i64 t227, .int .i64 t228] 34 (0, 0)) (by (with_reducible repeat (first | refine blk_drewN ?_ _ | refine blk_drew ?_ | refine blk_alloc ?_ _)); exact BK234.out) hb); have n5_ := Aside0.mk (blk_below (g := gb235) (o := .cells #[.int .i64 t229, .int .i64 t230, .int .i64 t231, .int .i64 t232] 34 (0, 0)) (by (with_reducible repeat (first | refine blk_drewN ?_ _ | refine blk_drew ?_ | refine blk_alloc ?_ _)); exact BK235.out) hb); have n6_ := Aside0.mk (blk_below (g := gb239) (o := .cells #[.slice Ao50 t236.length co50] 32 (0, 0)) (by (with_reducible repeat (first | refine blk_drewN ?_ _ | refine blk_drew ?_ | refine blk_alloc ?_ _)); exact BK239.out) hb); have n7_ := Aside0.mk (blk_below (g := gb255) (o := .cells #[.int .i64 t246, .int .i64 t247, .int .i64 t248, .int .i64 t249] 34 (0, 0)) (by (with_reducible repeat (first | refine blk_drewN ?_ _ | refine blk_drew ?_ | refine blk_alloc ?_ _)); exact BK255.out) hb); have n8_ := Aside0.mk (blk_below (g := gb256) (o := .cells #[.int .i64 t250, .int .i64 t251, .int .i64 t252, .int .i64 t253] 34 (0, 0)) (by (with_reducible repeat (first | refine blk_drewN ?_ _ | refine blk_drew ?_ | refine blk_alloc ?_ _)); exact BK256.out) hb); have n9_ := zhs HB hb; clear HO218; clear HO238; clear BK213; clear BK214; clear BK234; clear BK235; clear BK239; clear BK255; clear BK256; clear HB; have HO218 := n0_; have HO238 := n1_; have BK213 := n2_; have BK214 := n3_; have BK234 := n4_; have BK235 := n5_; have BK239 := n6_; have BK255 := n7_; have BK256 := n8_; have HB := n9_; clear n0_ n1_ n2_ n3_ n4_ n5_ n6_ n7_ n8_ n9_; (try clear hb); (try clear hb2); (try clear hk); (try clear hi)))
      replace HO218 := Aside0.mk (Kd.S_drew HO218.out)
      replace HO238 := Aside0.mk (Kd.S_drew HO238.out)
      replace BK213 := Aside0.mk (blk_drew BK213.out)
      replace BK214 := Aside0.mk (blk_drew BK214.out)
      replace BK234 := Aside0.mk (blk_drew BK234.out)
      replace BK235 := Aside0.mk (blk_drew BK235.out)
      replace BK239 := Aside0.mk (blk_drew BK239.out)
      replace BK255 := Aside0.mk (blk_drew BK255.out)
      replace BK256 := Aside0.mk (blk_drew BK256.out)
      replace HB := Aside0.mk (below_drew1 HB.out)
      refine start_ (n := 5) (S := fun w' => w'.cell? ⟨gb239, 0, none⟩ = some (.slice Ao50 t236.length co50) ∧ w'.cell? ⟨gb213, 0, none⟩ = some (.slice A0_0 l0_0.length c0_0)) (ds := []) #[false, false, false, false, false] (by kernel_rfl) rfl rfl ⟨zc0 BK239 0 rfl, zc0 BK213 0 rfl⟩ (fun hHeld => ?_)
      generalize w90.drew = w91 at HO218 HO238 BK213 BK214 BK234 BK235 BK239 BK255 BK256 HB hHeld ⊢
      refine take_ (i := 0) (N := some 52) (v := ?_) (a' := ?_) #[true, false, false, false, false] rfl rfl (by kernel_rfl) (fun _ _ _ h => h) (Or.inl ⟨by rfl, ?_⟩) hHeld ?_ ?_
      rotate_left
      ·rintro w' ⟨s0, s1⟩
       go_simp
       with_reducible rfl
      rotate_left
      ·simp only [Act.put, zp1, zp2, zp3, i64_w, i32_w]
       rfl
      refine take_ (i := 1) (N := some 53) (v := ?_) (a' := ?_) #[true, true, false, false, false] rfl rfl (by kernel_rfl) (fun _ _ _ h => h) (Or.inl ⟨by rfl, ?_⟩) hHeld ?_ ?_
      rotate_left
      ·rintro w' ⟨s0, s1⟩
       go_simp
       with_reducible rfl
      rotate_left
      ·simp only [Act.put, zp1, zp2, zp3, i64_w, i32_w]
       rfl
      refine one_ (i := 2) (N := some 54) #[true, true, true, false, false] rfl rfl (by kernel_rfl) (by decide) (fun K hK => ?_)
      refine goes_ Try.func16 (by kernel_rfl) rfl #[.agg #[.slice A0_0 l0_0.length c0_0]] (by rfl) rfl rfl (by (try simp only [List.map_toArray, List.map_cons, List.map_nil]); first | done | rfl | (simp only [List.length_drop, List.length_take]; rfl)) ?_
      with_reducible refine (laws_toMemory.calls k _ _ l0_0 t259 _ ?side1 ?side2 A21.out).mono ?_
      (case side1 => repeat (first | exact (Kd.C_below HR0_0.out HB.out) | (with_reducible refine Kd.C_alloc ?_ _) | (with_reducible refine Kd.C_drewN ?_ _) | (with_reducible refine Kd.C_drew ?_)))
      (case side2 => exact HC0_0.out)
      rintro e w92 ⟨v260, rfl, ho0, hb⟩
      refine ⟨_, rfl, ?_⟩
      have HO261 := Aside0.mk (Kd.S_lower (Kd.S_new' (Kd.S_new' ho0 (Kd.S_lt (zs0 HO218))) (Kd.S_lt (zs0 HO238))) (below_size (zh0 HB)))
      replace HO218 := Aside0.mk (Kd.S_elder' (zs0 HO218) (Kd.S_base ho0) hb)
      replace HO238 := Aside0.mk (Kd.S_elder' (zs0 HO238) (Kd.S_base ho0) hb)
      replace BK213 := zb0 BK213 hb
      replace BK214 := zb0 BK214 hb
      replace BK234 := zb0 BK234 hb
      replace BK235 := zb0 BK235 hb
      replace BK239 := zb0 BK239 hb
      replace BK255 := zb0 BK255 hb
      replace BK256 := zb0 BK256 hb
      replace HB := zhs HB hb
      (try clear hb)
      (try clear hb2)
      (try clear hk)
      (try clear hi)
      (try clear ho0)
      obtain ⟨Ao93, co93, eo93⟩ := Kd.S_slice HO261.out
      (first | subst eo93 | (injection eo93 with f1_ f2_ f3_; have f4_ := f1_.symm; have f5_ := f3_.symm; clear f1_ f2_ f3_; subst f4_; subst f5_))
      refine hK.out _ _ ⟨zc0 BK239 0 rfl, zc0 BK213 0 rfl⟩ (fun hHeld => ?_)
      clear hK K
      refine norm_ (a' := ?_) ?_ ?_
      rotate_left
      ·show Act.put _ (some 54) _ = _
       simp only [Act.put, zp1, zp2, zp3, i64_w, i32_w]
       rfl
      refine one_ (i := 3) (N := some 55) #[true, true, true, true, false] rfl rfl (by kernel_rfl) (by decide) (fun K hK => ?_)
      refine goes_ Try.func19 (by kernel_rfl) rfl #[.agg #[.slice Ao50 t236.length co50], .agg #[.slice Ao93 t259.length co93]] (by rfl) rfl rfl (by (try simp only [List.map_toArray, List.map_cons, List.map_nil]); first | done | rfl | (simp only [List.length_drop, List.length_take]; rfl)) ?_
      with_reducible refine (laws_eqMemory.calls k _ _ t236 _ _ t259 true _ ?side1 ?side2 ?side3 ?side4 A22.out).mono ?_
      (case side1 => repeat (first | exact (Kd.S_reads' HO238.out).2.2 | (with_reducible refine Kd.C_alloc ?_ _) | (with_reducible refine Kd.C_drewN ?_ _) | (with_reducible refine Kd.C_drew ?_)))
      (case side2 => exact (Kd.S_reads' HO238.out).2.1)
      (case side3 => repeat (first | exact (Kd.S_reads' HO261.out).2.2 | (with_reducible refine Kd.C_alloc ?_ _) | (with_reducible refine Kd.C_drewN ?_ _) | (with_reducible refine Kd.C_drew ?_)))
      (case side4 => exact (Kd.S_reads' HO261.out).2.1)
      rintro e w94 ⟨rfl, hb⟩
      refine ⟨_, rfl, ?_⟩
      replace HO218 := zsb HO218 hb
      replace HO238 := zsb HO238 hb
      replace HO261 := zsb HO261 hb
      replace BK213 := zb0 BK213 hb
      replace BK214 := zb0 BK214 hb
      replace BK234 := zb0 BK234 hb
      replace BK235 := zb0 BK235 hb
      replace BK239 := zb0 BK239 hb
      replace BK255 := zb0 BK255 hb
      replace BK256 := zb0 BK256 hb
      replace HB := zhs HB hb
      (try clear hb)
      (try clear hb2)
      (try clear hk)
      (try clear hi)
      refine hK.out _ _ ⟨zc0 BK239 0 rfl, zc0 BK213 0 rfl⟩ (fun hHeld => ?_)
      clear hK K
      refine norm_ (a' := ?_) ?_ ?_
      rotate_left
      ·show Act.put _ (some 55) _ = _
       simp only [Act.put, zp1, zp2, zp3, i64_w, i32_w]
       rfl
      refine pure_ (i := 4) (N := some 56) (v := ?_) (a' := ?_) #[true, true, true, true, true] rfl rfl (by kernel_rfl) (fun _ _ _ h => h) (Or.inl ⟨by rfl, ?_⟩) ?_ ?_
      rotate_left
      ·intro w'
       go_simp
       with_reducible rfl
      rotate_left
      ·simp only [Act.put, zp1, zp2, zp3, i64_w, i32_w]
       rfl
      refine done_ (by kernel_rfl) ?_
      try go_wp2
      go_ret
      exact ⟨by first | rfl | (simp [errW_none, errW_some] <;> rfl) | (simp [*, errW_none, errW_some] <;> rfl), by repeat (first | (with_reducible first | exact HB.out | apply below_alloc | apply pw_below_drewN | apply below_drew1 | refine below_set ?_ GE213.out | refine below_set ?_ GE214.out | refine below_set ?_ GE234.out | refine below_set ?_ GE235.out | refine below_set ?_ GE239.out | refine below_set ?_ GE255.out | refine below_set ?_ GE256.out) | exact HB.out)⟩
     ·replace c23 := Bool.eq_false_iff.mpr c23
      subst c23
      have H1 : (none) = some r := by rw [if_neg (show ¬ (false = true) by decide)] at H; exact H
      clear H
      have H := H1
      clear H1
      exact absurd H (by simp)
   ·replace c19 := Bool.eq_false_iff.mpr c19
    subst c19
    have H1 : (none) = some r := by rw [if_neg (show ¬ (false = true) by decide)] at H; exact H
    clear H
    have H := H1
    clear H1
    exact absurd H (by simp)
  ·replace c17 := Bool.eq_false_iff.mpr c17
   subst c17
   have H1 : (none) = some r := by rw [if_neg (show ¬ (false = true) by decide)] at H; exact H
   clear H
   have H := H1
   clear H1
   exact absurd H (by simp)

end Go.Proofs.Ytdojnaghcfhadaa.PFnExactRingParts
