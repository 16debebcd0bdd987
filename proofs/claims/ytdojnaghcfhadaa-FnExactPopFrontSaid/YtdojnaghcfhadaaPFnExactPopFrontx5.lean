/- What is proved here: each Go function that is named below answers, and leaves memory, as the theorem of its name says; no condition beyond those that each theorem states. Laid by this session's own program (wip/driver.py) over the kit's print. -/
import Derived.Test.YtdojnaghcfhadaaPFnExactPopFrontx0
import Derived.Test.YtdojnaghcfhadaaPFnExactPopFrontx1
import Derived.Test.YtdojnaghcfhadaaPFnExactPopFrontx2
import Derived.Test.YtdojnaghcfhadaaPFnExactPopFrontx4
namespace Go.Proofs.Ytdojnaghcfhadaa.PFnExactPopFront
open Go.RowKit Go.Proofs.YtdojnaghcfhadaaW.PrintWords Go.Proofs.YtdojnaghcfhadaaW.PrintLast Go.Proofs.YtdojnaghcfhadaaW.PrintMore
attribute [local go_sem] max2_int min2_int max_two min_two max_three min_three max_four min_four   -- for this text's walks alone
set_option linter.unusedVariables false
set_option linter.unusedSimpArgs false

open Go.Proofs.Ytdojnaghcfhadaa.Cp
/-! ### laws_FnExactPopFront: function 9 -/
def laws_FnExactPopFront.f (k : Nat) (l0_0 : List (List Int)) (a1_0 : Int) (a1_1 : Int) (a1_2 : Int) (a1_3 : Int) (a1_4 : Int) (a1_5 : Int) : Option (Bool) := (laws_szMemory.f k l0_0 1048576).bind fun t223 => (if t223 < 0 then (some true) else ((laws_toMemory.f k l0_0).bind fun t224 => ((laws_toRing.f a1_0 a1_1 a1_2 a1_3 a1_4 a1_5).bind fun bt227 => ((spec_PopFront.f k t224 bt227.1 bt227.2.1 bt227.2.2.1 bt227.2.2.2.1 bt227.2.2.2.2.1 bt227.2.2.2.2.2).bind fun bt233 => ((laws_toMemory.f k l0_0).bind fun t242 => ((laws_toRing.f a1_0 a1_1 a1_2 a1_3 a1_4 a1_5).bind fun bt246 => ((impl_PopFront.f k t242 bt246.1 bt246.2.1 bt246.2.2.1 bt246.2.2.2.1 bt246.2.2.2.2.1 bt246.2.2.2.2.2).bind fun bt252 => (if bt252.1 = bt233.1 then ((laws_eqRing.f bt252.2.1 bt252.2.2.1 bt252.2.2.2.1 bt252.2.2.2.2.1 bt252.2.2.2.2.2.1 bt252.2.2.2.2.2.2.1 bt233.2.1 bt233.2.2.1 bt233.2.2.2.1 bt233.2.2.2.2.1 bt233.2.2.2.2.2.1 bt233.2.2.2.2.2.2.1).bind fun t261 => (if t261 = true then (if (bt252.2.2.2.2.2.2.2 != bt233.2.2.2.2.2.2.2) = true then (none) else ((laws_toMemory.f k l0_0).bind fun t262 => ((laws_eqMemory.f k t242 t262).bind fun t265 => (if t265 = true then (some true) else (none))))) else (none))) else (none)))))))))
theorem laws_FnExactPopFront.mono : ∀ a0 a1 a2 a3 a4 a5 a6 k, LeO (laws_FnExactPopFront.f k a0 a1 a2 a3 a4 a5 a6) (laws_FnExactPopFront.f (k + 1) a0 a1 a2 a3 a4 a5 a6) := by
 intro a0 a1 a2 a3 a4 a5 a6 k
 unfold laws_FnExactPopFront.f
 repeat' first
   | (with_reducible exact impl_PopFront.mono _ _ _ _ _ _ _ _)
   | (with_reducible exact laws_eqMemory.mono _ _ _)
   | (with_reducible exact laws_szMemory.mono _ _ _)
   | (with_reducible exact laws_toMemory.mono _ _)
   | (with_reducible exact spec_PopFront.mono _ _ _ _ _ _ _ _)
   | (with_reducible exact LeO.refl _)
   | (with_reducible exact LeO.none _)
   | (with_reducible refine LeO.ite ?_ ?_)
   | (with_reducible refine LeO.bind ?_ (fun _ => ?_))
   | exact impl_PopFront.mono _ _ _ _ _ _ _ _
   | exact laws_eqMemory.mono _ _ _
   | exact laws_szMemory.mono _ _ _
   | exact laws_toMemory.mono _ _
   | exact spec_PopFront.mono _ _ _ _ _ _ _ _
   | exact LeO.none _
   | refine LeO.ite ?_ ?_
   | refine LeO.bind ?_ (fun _ => ?_)
def laws_FnExactPopFront.T5 : Bool × List (List Nat × List Nat) := (true, [([], []), ([0], [0]), ([], []), ([2, 1], [2]), ([1, 3, 3], [1, 3]), ([4], [4]), ([5], [5]), ([5], [5]), ([5], [5]), ([], []), ([6, 4, 0, 1, 2, 3, 4, 5, 6, 9], [6]), ([9, 7, 10, 0, 1, 2, 3, 4, 5, 6, 7, 9, 10], [7, 9]), ([8, 11, 0, 1, 2, 3, 4, 5, 6, 7, 8, 9, 10, 11], [8])])
def laws_FnExactPopFront.B5 : List Nat := [0, 1, 0, 7, 15, 31, 63, 63, 63, 0, 639, 1791, 4095]
theorem laws_FnExactPopFront.tab5 : rtab .any (opsOf Try.f9 5) = laws_FnExactPopFront.T5 := by kernel_rfl
theorem laws_FnExactPopFront.bits5 : waitsOk laws_FnExactPopFront.T5.2 laws_FnExactPopFront.B5 = true := by kernel_rfl
def laws_FnExactPopFront.T7 : Bool × List (List Nat × List Nat) := (true, [([], []), ([], []), ([1], [1]), ([0, 2, 2], [0, 2]), ([3], [3]), ([4], [4]), ([4], [4]), ([4], [4]), ([], []), ([5, 3, 0, 1, 2, 3, 4, 5, 8], [5]), ([8, 6, 9, 0, 1, 2, 3, 4, 5, 6, 8, 9], [6, 8]), ([7, 10, 0, 1, 2, 3, 4, 5, 6, 7, 8, 9, 10], [7])])
def laws_FnExactPopFront.B7 : List Nat := [0, 0, 2, 7, 15, 31, 31, 31, 0, 319, 895, 2047]
theorem laws_FnExactPopFront.tab7 : rtab .any (opsOf Try.f9 7) = laws_FnExactPopFront.T7 := by kernel_rfl
theorem laws_FnExactPopFront.bits7 : waitsOk laws_FnExactPopFront.T7.2 laws_FnExactPopFront.B7 = true := by kernel_rfl
set_option maxHeartbeats 8000000 in
set_option maxRecDepth 100000 in
theorem laws_FnExactPopFront.calls (k : Nat) (A0_0 : Option Addr) (c0_0 : Nat) (l0_0 : List (List Int)) (a1_0 : Int) (a1_1 : Int) (a1_2 : Int) (a1_3 : Int) (a1_4 : Int) (a1_5 : Int) (r : Bool) (w : World) (hr0_0 : Kd.C (Kd.slice 5 (Kd.int .u8)) w A0_0 l0_0.length l0_0) (hc0_0 : l0_0.length ≤ c0_0) (h : laws_FnExactPopFront.f k l0_0 a1_0 a1_1 a1_2 a1_3 a1_4 a1_5 = some r) :
  Calls Try.prog 9 #[.agg #[.slice A0_0 l0_0.length c0_0], .agg #[.int .i64 a1_0, .int .i64 a1_1, .int .i64 a1_2, .int .i64 a1_3, .int .i64 a1_4, .int .i64 a1_5]] w fun e w' => e = .returned (.bool r) ∧ Below w.heap.size w w' := by
 have hu24 := Try.underlying24
 have hu28 := Try.underlying28
 have hu36 := Try.underlying36
 have hu32 := Try.underlying32
 have HR0_0 := Aside0.mk hr0_0
 have HC0_0 := Aside0.mk hc0_0
 clear hr0_0 hc0_0
 have HB := Aside0.mk (Below.refl w.heap.size w)
 have H : ((laws_szMemory.f k l0_0 1048576).bind fun t223 => (if t223 < 0 then (some true) else ((laws_toMemory.f k l0_0).bind fun t224 => ((laws_toRing.f a1_0 a1_1 a1_2 a1_3 a1_4 a1_5).bind fun bt227 => ((spec_PopFront.f k t224 bt227.1 bt227.2.1 bt227.2.2.1 bt227.2.2.2.1 bt227.2.2.2.2.1 bt227.2.2.2.2.2).bind fun bt233 => ((laws_toMemory.f k l0_0).bind fun t242 => ((laws_toRing.f a1_0 a1_1 a1_2 a1_3 a1_4 a1_5).bind fun bt246 => ((impl_PopFront.f k t242 bt246.1 bt246.2.1 bt246.2.2.1 bt246.2.2.2.1 bt246.2.2.2.2.1 bt246.2.2.2.2.2).bind fun bt252 => (if bt252.1 = bt233.1 then ((laws_eqRing.f bt252.2.1 bt252.2.2.1 bt252.2.2.2.1 bt252.2.2.2.2.1 bt252.2.2.2.2.2.1 bt252.2.2.2.2.2.2.1 bt233.2.1 bt233.2.2.1 bt233.2.2.2.1 bt233.2.2.2.2.1 bt233.2.2.2.2.2.1 bt233.2.2.2.2.2.2.1).bind fun t261 => (if t261 = true then (if (bt252.2.2.2.2.2.2.2 != bt233.2.2.2.2.2.2.2) = true then (none) else ((laws_toMemory.f k l0_0).bind fun t262 => ((laws_eqMemory.f k t242 t262).bind fun t265 => (if t265 = true then (some true) else (none))))) else (none))) else (none)))))))))) = some r := h
 clear h
 replace H := Option.bind_eq_some_iff.mp H
 obtain ⟨t223, A30, H⟩ := H
 replace H : (if t223 < 0 then (some true) else ((laws_toMemory.f k l0_0).bind fun t224 => ((laws_toRing.f a1_0 a1_1 a1_2 a1_3 a1_4 a1_5).bind fun bt227 => ((spec_PopFront.f k t224 bt227.1 bt227.2.1 bt227.2.2.1 bt227.2.2.2.1 bt227.2.2.2.2.1 bt227.2.2.2.2.2).bind fun bt233 => ((laws_toMemory.f k l0_0).bind fun t242 => ((laws_toRing.f a1_0 a1_1 a1_2 a1_3 a1_4 a1_5).bind fun bt246 => ((impl_PopFront.f k t242 bt246.1 bt246.2.1 bt246.2.2.1 bt246.2.2.2.1 bt246.2.2.2.2.1 bt246.2.2.2.2.2).bind fun bt252 => (if bt252.1 = bt233.1 then ((laws_eqRing.f bt252.2.1 bt252.2.2.1 bt252.2.2.2.1 bt252.2.2.2.2.1 bt252.2.2.2.2.2.1 bt252.2.2.2.2.2.2.1 bt233.2.1 bt233.2.2.1 bt233.2.2.2.1 bt233.2.2.2.2.1 bt233.2.2.2.2.2.1 bt233.2.2.2.2.2.2.1).bind fun t261 => (if t261 = true then (if (bt252.2.2.2.2.2.2.2 != bt233.2.2.2.2.2.2.2) = true then (none) else ((laws_toMemory.f k l0_0).bind fun t262 => ((laws_eqMemory.f k t242 t262).bind fun t265 => (if t265 = true then (some true) else (none))))) else (none))) else (none))))))))) = some r := H
 have A3 := Aside0.mk A30
 clear A30
 by_cases c4 : t223 < 0
 ·rw [if_pos c4] at H
  have c4b0 : decide (t223 < 0) = true := decide_eq_true c4
  clear c4
  obtain rfl := Option.some.inj H
  go_enter Try.func9, Try.ntmps9
  go_wp2_with (first | ((with_reducible refine gate_dst (N := 2) rfl ?_); refine box_event ?hg (N := 2) ?hd (cs := #[.slice A0_0 l0_0.length c0_0]) (t := 24) ?hr ?_; (case hd => rfl); (case hg => rfl); (case hr => first | (go_simp; done) | (go_simp; rfl)); intro gb221 hg w5 hbox hb; have BK221 := Aside0.mk (hbox); have GW221 := zge HB hg; have GE221 := zge HB hg; replace HB := zhs HB hb; clear hb hbox hg) | ((with_reducible refine gate_dst (N := 3) rfl ?_); refine box_event ?hg (N := 3) ?hd (cs := #[.int .i64 a1_0, .int .i64 a1_1, .int .i64 a1_2, .int .i64 a1_3, .int .i64 a1_4, .int .i64 a1_5]) (t := 28) ?hr ?_; (case hd => rfl); (case hg => rfl); (case hr => first | (go_simp; done) | (go_simp; rfl)); intro gb222 hg w6 hbox hb; have BK222 := Aside0.mk (hbox); have GW222 := zge HB hg; have GE222 := zge HB hg; have NB221_222 := znl BK221 hg; have NB222_221 := znr BK221 hg; replace BK221 := zb0 BK221 hb; replace HB := zhs HB hb; clear hb hbox hg; have hnb7 := NB221_222.out; have hnc7 := NB222_221.out; have hcz8_0 : w6.cell? ⟨gb221, 0, none⟩ = some (.slice A0_0 l0_0.length c0_0) := zc0 BK221 0 rfl; have hfz8_0 := blk_frozen BK221.out 0) | ((with_reducible refine gate_callee (f := 14) rfl ?_); refine goesL_ (some 15) rfl rfl Try.func14 (by kernel_rfl) rfl #[.agg #[.slice A0_0 l0_0.length c0_0], .int .i64 1048576] rfl (by (try simp only [List.map_toArray, List.map_cons, List.map_nil]); first | done | rfl | (simp only [List.length_drop, List.length_take]; rfl)) ?_; (with_reducible refine (laws_szMemory.calls k _ _ l0_0 1048576 t223 _ ?side1 ?side2 A3.out).mono ?_); (case side1 => repeat (first | exact (Kd.C_below HR0_0.out HB.out) | (with_reducible refine Kd.C_alloc ?_ _) | (with_reducible refine Kd.C_drewN ?_ _) | (with_reducible refine Kd.C_drew ?_))); (case side2 => exact HC0_0.out); rintro e w9 ⟨rfl, hb⟩; refine ⟨_, rfl, ?_⟩; replace BK221 := zb0 BK221 hb; replace BK222 := zb0 BK222 hb; replace HB := zhs HB hb; (try clear hb); (try clear hb2); (try clear hk); (try clear hi)))
  go_ret
  exact ⟨by first | rfl | (simp [errW_none, errW_some] <;> rfl) | (simp [*, errW_none, errW_some] <;> rfl), by repeat (first | (with_reducible first | exact HB.out | apply below_alloc | apply pw_below_drewN | apply below_drew1 | refine below_set ?_ GE221.out | refine below_set ?_ GE222.out) | exact HB.out)⟩
 ·rw [if_neg c4] at H
  have c4b0 : decide (t223 < 0) = false := decide_eq_false c4
  clear c4
  replace H := Option.bind_eq_some_iff.mp H
  obtain ⟨t224, A100, H⟩ := H
  replace H : ((laws_toRing.f a1_0 a1_1 a1_2 a1_3 a1_4 a1_5).bind fun bt227 => ((spec_PopFront.f k t224 bt227.1 bt227.2.1 bt227.2.2.1 bt227.2.2.2.1 bt227.2.2.2.2.1 bt227.2.2.2.2.2).bind fun bt233 => ((laws_toMemory.f k l0_0).bind fun t242 => ((laws_toRing.f a1_0 a1_1 a1_2 a1_3 a1_4 a1_5).bind fun bt246 => ((impl_PopFront.f k t242 bt246.1 bt246.2.1 bt246.2.2.1 bt246.2.2.2.1 bt246.2.2.2.2.1 bt246.2.2.2.2.2).bind fun bt252 => (if bt252.1 = bt233.1 then ((laws_eqRing.f bt252.2.1 bt252.2.2.1 bt252.2.2.2.1 bt252.2.2.2.2.1 bt252.2.2.2.2.2.1 bt252.2.2.2.2.2.2.1 bt233.2.1 bt233.2.2.1 bt233.2.2.2.1 bt233.2.2.2.2.1 bt233.2.2.2.2.2.1 bt233.2.2.2.2.2.2.1).bind fun t261 => (if t261 = true then (if (bt252.2.2.2.2.2.2.2 != bt233.2.2.2.2.2.2.2) = true then (none) else ((laws_toMemory.f k l0_0).bind fun t262 => ((laws_eqMemory.f k t242 t262).bind fun t265 => (if t265 = true then (some true) else (none))))) else (none))) else (none))))))) = some r := H
  have A10 := Aside0.mk A100
  clear A100
  replace H := Option.bind_eq_some_iff.mp H
  obtain ⟨⟨t227, t228, t229, t230, t231, t232⟩, A110, H⟩ := H
  replace H : ((spec_PopFront.f k t224 t227 t228 t229 t230 t231 t232).bind fun bt233 => ((laws_toMemory.f k l0_0).bind fun t242 => ((laws_toRing.f a1_0 a1_1 a1_2 a1_3 a1_4 a1_5).bind fun bt246 => ((impl_PopFront.f k t242 bt246.1 bt246.2.1 bt246.2.2.1 bt246.2.2.2.1 bt246.2.2.2.2.1 bt246.2.2.2.2.2).bind fun bt252 => (if bt252.1 = bt233.1 then ((laws_eqRing.f bt252.2.1 bt252.2.2.1 bt252.2.2.2.1 bt252.2.2.2.2.1 bt252.2.2.2.2.2.1 bt252.2.2.2.2.2.2.1 bt233.2.1 bt233.2.2.1 bt233.2.2.2.1 bt233.2.2.2.2.1 bt233.2.2.2.2.2.1 bt233.2.2.2.2.2.2.1).bind fun t261 => (if t261 = true then (if (bt252.2.2.2.2.2.2.2 != bt233.2.2.2.2.2.2.2) = true then (none) else ((laws_toMemory.f k l0_0).bind fun t262 => ((laws_eqMemory.f k t242 t262).bind fun t265 => (if t265 = true then (some true) else (none))))) else (none))) else (none)))))) = some r := H
  have A11 := Aside0.mk A110
  clear A110
  replace H := Option.bind_eq_some_iff.mp H
  obtain ⟨⟨t233, t234, t235, t236, t237, t238, t239, t240⟩, A120, H⟩ := H
  replace H : ((laws_toMemory.f k l0_0).bind fun t242 => ((laws_toRing.f a1_0 a1_1 a1_2 a1_3 a1_4 a1_5).bind fun bt246 => ((impl_PopFront.f k t242 bt246.1 bt246.2.1 bt246.2.2.1 bt246.2.2.2.1 bt246.2.2.2.2.1 bt246.2.2.2.2.2).bind fun bt252 => (if bt252.1 = t233 then ((laws_eqRing.f bt252.2.1 bt252.2.2.1 bt252.2.2.2.1 bt252.2.2.2.2.1 bt252.2.2.2.2.2.1 bt252.2.2.2.2.2.2.1 t234 t235 t236 t237 t238 t239).bind fun t261 => (if t261 = true then (if (bt252.2.2.2.2.2.2.2 != t240) = true then (none) else ((laws_toMemory.f k l0_0).bind fun t262 => ((laws_eqMemory.f k t242 t262).bind fun t265 => (if t265 = true then (some true) else (none))))) else (none))) else (none))))) = some r := H
  have A12 := Aside0.mk A120
  clear A120
  replace H := Option.bind_eq_some_iff.mp H
  obtain ⟨t242, A130, H⟩ := H
  replace H : ((laws_toRing.f a1_0 a1_1 a1_2 a1_3 a1_4 a1_5).bind fun bt246 => ((impl_PopFront.f k t242 bt246.1 bt246.2.1 bt246.2.2.1 bt246.2.2.2.1 bt246.2.2.2.2.1 bt246.2.2.2.2.2).bind fun bt252 => (if bt252.1 = t233 then ((laws_eqRing.f bt252.2.1 bt252.2.2.1 bt252.2.2.2.1 bt252.2.2.2.2.1 bt252.2.2.2.2.2.1 bt252.2.2.2.2.2.2.1 t234 t235 t236 t237 t238 t239).bind fun t261 => (if t261 = true then (if (bt252.2.2.2.2.2.2.2 != t240) = true then (none) else ((laws_toMemory.f k l0_0).bind fun t262 => ((laws_eqMemory.f k t242 t262).bind fun t265 => (if t265 = true then (some true) else (none))))) else (none))) else (none)))) = some r := H
  have A13 := Aside0.mk A130
  clear A130
  replace H := Option.bind_eq_some_iff.mp H
  obtain ⟨⟨t246, t247, t248, t249, t250, t251⟩, A140, H⟩ := H
  replace H : ((impl_PopFront.f k t242 t246 t247 t248 t249 t250 t251).bind fun bt252 => (if bt252.1 = t233 then ((laws_eqRing.f bt252.2.1 bt252.2.2.1 bt252.2.2.2.1 bt252.2.2.2.2.1 bt252.2.2.2.2.2.1 bt252.2.2.2.2.2.2.1 t234 t235 t236 t237 t238 t239).bind fun t261 => (if t261 = true then (if (bt252.2.2.2.2.2.2.2 != t240) = true then (none) else ((laws_toMemory.f k l0_0).bind fun t262 => ((laws_eqMemory.f k t242 t262).bind fun t265 => (if t265 = true then (some true) else (none))))) else (none))) else (none))) = some r := H
  have A14 := Aside0.mk A140
  clear A140
  replace H := Option.bind_eq_some_iff.mp H
  obtain ⟨⟨t252, t253, t254, t255, t256, t257, t258, t259⟩, A150, H⟩ := H
  replace H : (if t252 = t233 then ((laws_eqRing.f t253 t254 t255 t256 t257 t258 t234 t235 t236 t237 t238 t239).bind fun t261 => (if t261 = true then (if (t259 != t240) = true then (none) else ((laws_toMemory.f k l0_0).bind fun t262 => ((laws_eqMemory.f k t242 t262).bind fun t265 => (if t265 = true then (some true) else (none))))) else (none))) else (none)) = some r := H
  have A15 := Aside0.mk A150
  clear A150
  by_cases c16 : t252 = t233
  ·rw [if_pos c16] at H
   have c16b0 : (t252 == t233) = true := beq_iff_eq.mpr c16
   have c16b1 : (t252 != t233) = false := bne_eq_false_iff_eq.mpr c16
   clear c16
   replace H := Option.bind_eq_some_iff.mp H
   obtain ⟨t261, A170, H⟩ := H
   replace H : (if t261 = true then (if (t259 != t240) = true then (none) else ((laws_toMemory.f k l0_0).bind fun t262 => ((laws_eqMemory.f k t242 t262).bind fun t265 => (if t265 = true then (some true) else (none))))) else (none)) = some r := H
   have A17 := Aside0.mk A170
   clear A170
   by_cases c18 : t261 = true
   ·subst c18
    have H1 : (if (t259 != t240) = true then (none) else ((laws_toMemory.f k l0_0).bind fun t262 => ((laws_eqMemory.f k t242 t262).bind fun t265 => (if t265 = true then (some true) else (none))))) = some r := by rw [if_pos rfl] at H; exact H
    clear H
    have H := H1
    clear H1
    by_cases c19 : (t259 != t240) = true
    ·rw [if_pos c19] at H
     exact absurd H (by simp)
    ·rw [if_neg c19] at H
     have c19b0 : (t259 != t240) = false := by simpa using c19
     (try (have c19b1 : decide (t259 = t240) = true := by simpa using c19))
     (try (have c19b2 : (t259 == t240) = true := by simpa using c19))
     clear c19
     replace H := Option.bind_eq_some_iff.mp H
     obtain ⟨t262, A200, H⟩ := H
     replace H : ((laws_eqMemory.f k t242 t262).bind fun t265 => (if t265 = true then (some true) else (none))) = some r := H
     have A20 := Aside0.mk A200
     clear A200
     replace H := Option.bind_eq_some_iff.mp H
     obtain ⟨t265, A210, H⟩ := H
     replace H : (if t265 = true then (some true) else (none)) = some r := H
     have A21 := Aside0.mk A210
     clear A210
     by_cases c22 : t265 = true
     ·subst c22
      have H1 : (some true) = some r := by rw [if_pos rfl] at H; exact H
      clear H
      have H := H1
      clear H1
      obtain rfl := Option.some.inj H
      go_enter Try.func9, Try.ntmps9
      try go_wp2_with (first | ((with_reducible refine gate_dst (N := 2) rfl ?_); refine box_event ?hg (N := 2) ?hd (cs := #[.slice A0_0 l0_0.length c0_0]) (t := 24) ?hr ?_; (case hd => rfl); (case hg => rfl); (case hr => first | (go_simp; done) | (go_simp; rfl)); intro gb221 hg w23 hbox hb; have BK221 := Aside0.mk (hbox); have GW221 := zge HB hg; have GE221 := zge HB hg; replace HB := zhs HB hb; clear hb hbox hg) | ((with_reducible refine gate_dst (N := 3) rfl ?_); refine box_event ?hg (N := 3) ?hd (cs := #[.int .i64 a1_0, .int .i64 a1_1, .int .i64 a1_2, .int .i64 a1_3, .int .i64 a1_4, .int .i64 a1_5]) (t := 28) ?hr ?_; (case hd => rfl); (case hg => rfl); (case hr => first | (go_simp; done) | (go_simp; rfl)); intro gb222 hg w24 hbox hb; have BK222 := Aside0.mk (hbox); have GW222 := zge HB hg; have GE222 := zge HB hg; have NB221_222 := znl BK221 hg; have NB222_221 := znr BK221 hg; replace BK221 := zb0 BK221 hb; replace HB := zhs HB hb; clear hb hbox hg; have hnb25 := NB221_222.out; have hnc25 := NB222_221.out; have hcz26_0 : w24.cell? ⟨gb221, 0, none⟩ = some (.slice A0_0 l0_0.length c0_0) := zc0 BK221 0 rfl; have hfz26_0 := blk_frozen BK221.out 0) | ((with_reducible refine gate_callee (f := 14) rfl ?_); refine goesL_ (some 15) rfl rfl Try.func14 (by kernel_rfl) rfl #[.agg #[.slice A0_0 l0_0.length c0_0], .int .i64 1048576] rfl (by (try simp only [List.map_toArray, List.map_cons, List.map_nil]); first | done | rfl | (simp only [List.length_drop, List.length_take]; rfl)) ?_; (with_reducible refine (laws_szMemory.calls k _ _ l0_0 1048576 t223 _ ?side1 ?side2 A3.out).mono ?_); (case side1 => repeat (first | exact (Kd.C_below HR0_0.out HB.out) | (with_reducible refine Kd.C_alloc ?_ _) | (with_reducible refine Kd.C_drewN ?_ _) | (with_reducible refine Kd.C_drew ?_))); (case side2 => exact HC0_0.out); rintro e w27 ⟨rfl, hb⟩; refine ⟨_, rfl, ?_⟩; replace BK221 := zb0 BK221 hb; replace BK222 := zb0 BK222 hb; replace HB := zhs HB hb; (try clear hb); (try clear hb2); (try clear hk); (try clear hi)))
      replace BK221 := Aside0.mk (blk_drew BK221.out)
      replace BK222 := Aside0.mk (blk_drew BK222.out)
      replace HB := Aside0.mk (below_drew1 HB.out)
      refine start_ (n := 13) (S := fun w' => w'.cell? ⟨gb221, 0, none⟩ = some (.slice A0_0 l0_0.length c0_0) ∧ w'.cell? ⟨gb222, 0, none⟩ = some (.int .i64 a1_0) ∧ w'.cell? ⟨gb222, 1, none⟩ = some (.int .i64 a1_1) ∧ w'.cell? ⟨gb222, 2, none⟩ = some (.int .i64 a1_2) ∧ w'.cell? ⟨gb222, 3, none⟩ = some (.int .i64 a1_3) ∧ w'.cell? ⟨gb222, 4, none⟩ = some (.int .i64 a1_4) ∧ w'.cell? ⟨gb222, 5, none⟩ = some (.int .i64 a1_5)) (ds := []) #[false, false, false, false, false, false, false, false, false, false, false, false, false] (by kernel_rfl) rfl rfl ⟨zc0 BK221 0 rfl, zc0 BK222 0 rfl, zc0 BK222 1 rfl, zc0 BK222 2 rfl, zc0 BK222 3 rfl, zc0 BK222 4 rfl, zc0 BK222 5 rfl⟩ (fun hHeld => ?_); refine with_tabW laws_FnExactPopFront.tab5 laws_FnExactPopFront.bits5 (fun HT_ HW_ => ?_)
      generalize w27.drew = w28 at BK221 BK222 HB hHeld ⊢
      refine take_ (i := 0) (N := some 19) (v := ?_) (a' := ?_) #[true, false, false, false, false, false, false, false, false, false, false, false, false] rfl rfl (take_ofW HT_.out HW_.out (by kernel_rfl)) (fun _ _ _ h => h) (Or.inl ⟨by rfl, ?_⟩) hHeld ?_ ?_
      rotate_left
      ·rintro w' ⟨s0, s1, s2, s3, s4, s5, s6⟩
       go_simp
       with_reducible rfl
      rotate_left
      ·simp only [Act.put, zp1, zp2, zp3, i64_w, i32_w]
       rfl
      refine take_ (i := 2) (N := some 21) (v := ?_) (a' := ?_) #[true, false, true, false, false, false, false, false, false, false, false, false, false] rfl rfl (take_ofW HT_.out HW_.out (by kernel_rfl)) (fun _ _ _ h => h) (Or.inl ⟨by rfl, ?_⟩) hHeld ?_ ?_
      rotate_left
      ·rintro w' ⟨s0, s1, s2, s3, s4, s5, s6⟩
       go_simp
       with_reducible rfl
      rotate_left
      ·simp only [Act.put, zp1, zp2, zp3, i64_w, i32_w]
       rfl
      refine join_ (σ := Value × Nat) 3 #[true, true, true, true, true, true, true, true, true, true, false, false, false] (fun s_ => [(20, .agg #[s_.1]), (22, .agg #[.int .i64 t227, .int .i64 t228, .int .i64 t229, .int .i64 t230, .int .i64 t231, .int .i64 t232]), (23, .tuple #[.int .u8 t233, .agg #[.int .i64 t234, .int .i64 t235, .int .i64 t236, .int .i64 t237, .int .i64 t238, .int .i64 t239], .bool t240]), (7, .pointer (some ⟨s_.2, 0, none⟩)), (18, .tuple #[.int .u8 t233, .agg #[.int .i64 t234, .int .i64 t235, .int .i64 t236, .int .i64 t237, .int .i64 t238, .int .i64 t239], .bool t240]), (24, .int .u8 t233), (25, .agg #[.int .i64 t234, .int .i64 t235, .int .i64 t236, .int .i64 t237, .int .i64 t238, .int .i64 t239]), (26, .bool t240)]) (fun s_ w' => (w'.cell? ⟨gb221, 0, none⟩ = some (.slice A0_0 l0_0.length c0_0) ∧ w'.cell? ⟨gb222, 0, none⟩ = some (.int .i64 a1_0) ∧ w'.cell? ⟨gb222, 1, none⟩ = some (.int .i64 a1_1) ∧ w'.cell? ⟨gb222, 2, none⟩ = some (.int .i64 a1_2) ∧ w'.cell? ⟨gb222, 3, none⟩ = some (.int .i64 a1_3) ∧ w'.cell? ⟨gb222, 4, none⟩ = some (.int .i64 a1_4) ∧ w'.cell? ⟨gb222, 5, none⟩ = some (.int .i64 a1_5)) ∧ (Kd.S (Kd.slice 5 (Kd.int .u8)) 65 w' w.heap.size (fun _ => True) s_.1 t224) ∧ (w'.heap[gb221]? = some (.cells #[.slice A0_0 l0_0.length c0_0] 24 (0, 0))) ∧ (w'.heap[gb222]? = some (.cells #[.int .i64 a1_0, .int .i64 a1_1, .int .i64 a1_2, .int .i64 a1_3, .int .i64 a1_4, .int .i64 a1_5] 28 (0, 0))) ∧ (w'.heap[s_.2]? = some (.cells #[.int .i64 0, .int .i64 0, .int .i64 0, .int .i64 0, .int .i64 0, .int .i64 0] 36 (0, 0))) ∧ (w.heap.size ≤ s_.2) ∧ (w.heap.size ≤ s_.2) ∧ (gb221 ≠ s_.2) ∧ (s_.2 ≠ gb221) ∧ (gb222 ≠ s_.2) ∧ (s_.2 ≠ gb222) ∧ (Below w.heap.size w w')) ?_ ?_
      rotate_left
      ·intro hCont
       refine two_ (i := 1) (j := 9) (Ni := some 20) (Nj := some 7) #[true, true, true, false, false, false, false, false, false, false, false, false, false] #[true, false, true, false, false, false, false, false, false, true, false, false, false] rfl rfl rfl rfl (two_of HT_.out (by kernel_rfl)) (by decide) (by decide) (fun K hK => ?_) (fun K hK => ?_)
       ·skip
        refine goes_ Try.func16 (by kernel_rfl) rfl #[.agg #[.slice A0_0 l0_0.length c0_0]] (by rfl) rfl rfl (by (try simp only [List.map_toArray, List.map_cons, List.map_nil]); first | done | rfl | (simp only [List.length_drop, List.length_take]; rfl)) ?_
        with_reducible refine (laws_toMemory.calls k _ _ l0_0 t224 _ ?side1 ?side2 A10.out).mono ?_
        (case side1 => repeat (first | exact (Kd.C_below HR0_0.out HB.out) | (with_reducible refine Kd.C_alloc ?_ _) | (with_reducible refine Kd.C_drewN ?_ _) | (with_reducible refine Kd.C_drew ?_)))
        (case side2 => exact HC0_0.out)
        rintro e w29 ⟨v225, rfl, ho0, hb⟩
        refine ⟨_, rfl, ?_⟩
        have HO226 := Aside0.mk (Kd.S_lower ho0 (below_size (zh0 HB)))
        replace BK221 := zb0 BK221 hb
        replace BK222 := zb0 BK222 hb
        replace HB := zhs HB hb
        (try clear hb)
        (try clear hb2)
        (try clear hk)
        (try clear hi)
        (try clear ho0)
        refine hK.out _ _ ⟨zc0 BK221 0 rfl, zc0 BK222 0 rfl, zc0 BK222 1 rfl, zc0 BK222 2 rfl, zc0 BK222 3 rfl, zc0 BK222 4 rfl, zc0 BK222 5 rfl⟩ (fun hHeld => ?_)
        clear hK K
        refine norm_ (a' := ?_) ?_ ?_
        rotate_left
        ·show Act.put _ (some 20) _ = _
         simp only [Act.put, zp1, zp2, zp3, i64_w, i32_w]
         rfl
        refine two_ (i := 3) (j := 9) (Ni := some 22) (Nj := some 7) #[true, true, true, true, false, false, false, false, false, false, false, false, false] #[true, true, true, false, false, false, false, false, false, true, false, false, false] rfl rfl rfl rfl (two_of HT_.out (by kernel_rfl)) (by decide) (by decide) (fun K hK => ?_) (fun K hK => ?_)
        ·skip
         refine goes_ Try.func17 (by kernel_rfl) rfl #[.agg #[.int .i64 a1_0, .int .i64 a1_1, .int .i64 a1_2, .int .i64 a1_3, .int .i64 a1_4, .int .i64 a1_5]] (by rfl) rfl rfl (by (try simp only [List.map_toArray, List.map_cons, List.map_nil]); first | done | rfl | (simp only [List.length_drop, List.length_take]; rfl)) ?_
         with_reducible refine (laws_toRing.calls a1_0 a1_1 a1_2 a1_3 a1_4 a1_5 t227 t228 t229 t230 t231 t232 _ A11.out).mono ?_
         rintro e w30 ⟨rfl, hb⟩
         refine ⟨_, rfl, ?_⟩
         replace HO226 := zsb HO226 hb
         replace BK221 := zb0 BK221 hb
         replace BK222 := zb0 BK222 hb
         replace HB := zhs HB hb
         (try clear hb)
         (try clear hb2)
         (try clear hk)
         (try clear hi)
         obtain ⟨Ao31, co31, eo31⟩ := Kd.S_slice HO226.out
         (first | subst eo31 | (injection eo31 with f1_ f2_ f3_; have f4_ := f1_.symm; have f5_ := f3_.symm; clear f1_ f2_ f3_; subst f4_; subst f5_))
         refine hK.out _ _ ⟨zc0 BK221 0 rfl, zc0 BK222 0 rfl, zc0 BK222 1 rfl, zc0 BK222 2 rfl, zc0 BK222 3 rfl, zc0 BK222 4 rfl, zc0 BK222 5 rfl⟩ (fun hHeld => ?_)
         clear hK K
         refine norm_ (a' := ?_) ?_ ?_
         rotate_left
         ·show Act.put _ (some 22) _ = _
          simp only [Act.put, zp1, zp2, zp3, i64_w, i32_w]
          rfl
         refine two_ (i := 4) (j := 9) (Ni := some 23) (Nj := some 7) #[true, true, true, true, true, false, false, false, false, false, false, false, false] #[true, true, true, true, false, false, false, false, false, true, false, false, false] rfl rfl rfl rfl (two_of HT_.out (by kernel_rfl)) (by decide) (by decide) (fun K hK => ?_) (fun K hK => ?_)
         ·skip
          refine goes_ Try.func38 (by kernel_rfl) rfl #[.agg #[.slice Ao31 t224.length co31], .agg #[.int .i64 t227, .int .i64 t228, .int .i64 t229, .int .i64 t230, .int .i64 t231, .int .i64 t232]] (by rfl) rfl rfl (by (try simp only [List.map_toArray, List.map_cons, List.map_nil]); first | done | rfl | (simp only [List.length_drop, List.length_take]; rfl)) ?_
          with_reducible refine (spec_PopFront.calls k _ _ t224 t227 t228 t229 t230 t231 t232 t233 t234 t235 t236 t237 t238 t239 t240 _ ?side1 ?side2 A12.out).mono ?_
          (case side1 => repeat (first | exact (Kd.S_reads' HO226.out).2.2 | (with_reducible refine Kd.C_alloc ?_ _) | (with_reducible refine Kd.C_drewN ?_ _) | (with_reducible refine Kd.C_drew ?_)))
          (case side2 => exact (Kd.S_reads' HO226.out).2.1)
          rintro e w32 ⟨rfl, hb⟩
          refine ⟨_, rfl, ?_⟩
          replace HO226 := zsb HO226 hb
          replace BK221 := zb0 BK221 hb
          replace BK222 := zb0 BK222 hb
          replace HB := zhs HB hb
          (try clear hb)
          (try clear hb2)
          (try clear hk)
          (try clear hi)
          refine hK.out _ _ ⟨zc0 BK221 0 rfl, zc0 BK222 0 rfl, zc0 BK222 1 rfl, zc0 BK222 2 rfl, zc0 BK222 3 rfl, zc0 BK222 4 rfl, zc0 BK222 5 rfl⟩ (fun hHeld => ?_)
          clear hK K
          refine norm_ (a' := ?_) ?_ ?_
          rotate_left
          ·show Act.put _ (some 23) _ = _
           simp only [Act.put, zp1, zp2, zp3, i64_w, i32_w]
           rfl
          refine pure_ (i := 5) (N := some 18) (v := ?_) (a' := ?_) #[true, true, true, true, true, true, false, false, false, false, false, false, false] rfl rfl (any_of HT_.out (by kernel_rfl)) (fun _ _ _ h => h) (Or.inl ⟨by rfl, ?_⟩) ?_ ?_
          rotate_left
          ·intro w'
           go_simp
           with_reducible rfl
          rotate_left
          ·simp only [Act.put, zp1, zp2, zp3, i64_w, i32_w]
           rfl
          refine pure_ (i := 6) (N := some 24) (v := ?_) (a' := ?_) #[true, true, true, true, true, true, true, false, false, false, false, false, false] rfl rfl (any_of HT_.out (by kernel_rfl)) (fun _ _ _ h => h) (Or.inl ⟨by rfl, ?_⟩) ?_ ?_
          rotate_left
          ·intro w'
           go_simp
           with_reducible rfl
          rotate_left
          ·simp only [Act.put, zp1, zp2, zp3, i64_w, i32_w]
           rfl
          refine pure_ (i := 7) (N := some 25) (v := ?_) (a' := ?_) #[true, true, true, true, true, true, true, true, false, false, false, false, false] rfl rfl (any_of HT_.out (by kernel_rfl)) (fun _ _ _ h => h) (Or.inl ⟨by rfl, ?_⟩) ?_ ?_
          rotate_left
          ·intro w'
           go_simp
           with_reducible rfl
          rotate_left
          ·simp only [Act.put, zp1, zp2, zp3, i64_w, i32_w]
           rfl
          refine pure_ (i := 8) (N := some 26) (v := ?_) (a' := ?_) #[true, true, true, true, true, true, true, true, true, false, false, false, false] rfl rfl (any_of HT_.out (by kernel_rfl)) (fun _ _ _ h => h) (Or.inl ⟨by rfl, ?_⟩) ?_ ?_
          rotate_left
          ·intro w'
           go_simp
           with_reducible rfl
          rotate_left
          ·simp only [Act.put, zp1, zp2, zp3, i64_w, i32_w]
           rfl
          refine one_ (i := 9) (N := some 7) #[true, true, true, true, true, true, true, true, true, true, false, false, false] rfl rfl (one_of HT_.out (by kernel_rfl)) (by decide) (fun K hK => ?_)
          refine box_step ?hg (N := 7) ?hd (cs := #[.int .i64 0, .int .i64 0, .int .i64 0, .int .i64 0, .int .i64 0, .int .i64 0]) (t := 36) ?hr ?_; (case hd => rfl); (case hg => rfl); (case hr => first | (go_simp; done) | (go_simp; rfl))
          intro gb241 hg w33 hbox hb
          have BK241 := Aside0.mk (hbox)
          have GW241 := zge HB hg
          have GE241 := zge HB hg
          have NB221_241 := znl BK221 hg
          have NB241_221 := znr BK221 hg
          have NB222_241 := znl BK222 hg
          have NB241_222 := znr BK222 hg
          replace HO226 := zsb HO226 hb
          replace BK221 := zb0 BK221 hb
          replace BK222 := zb0 BK222 hb
          replace HB := zhs HB hb
          clear hb hbox hg
          refine hK.out _ _ ⟨zc0 BK221 0 rfl, zc0 BK222 0 rfl, zc0 BK222 1 rfl, zc0 BK222 2 rfl, zc0 BK222 3 rfl, zc0 BK222 4 rfl, zc0 BK222 5 rfl⟩ (fun hHeld => ?_)
          clear hK K
          refine norm_ (a' := ?_) ?_ ?_
          rotate_left
          ·show Act.put _ (some 7) _ = _
           simp only [Act.put, zp1, zp2, zp3, i64_w, i32_w]
           rfl
          exact norm_ (by simp only [putAll, Act.put, zp1, zp2, zp3]) (hCont (.slice Ao31 t224.length co31, gb241) _ ⟨hHeld, (zs0 HO226), (zk0 BK221), (zk0 BK222), (zk0 BK241), GW241.out, GE241.out, NB221_241.out, NB241_221.out, NB222_241.out, NB241_222.out, (zh0 HB)⟩)
         ·skip
          refine box_step ?hg (N := 7) ?hd (cs := #[.int .i64 0, .int .i64 0, .int .i64 0, .int .i64 0, .int .i64 0, .int .i64 0]) (t := 36) ?hr ?_; (case hd => rfl); (case hg => rfl); (case hr => first | (go_simp; done) | (go_simp; rfl))
          intro gb241 hg w31 hbox hb
          have BK241 := Aside0.mk (hbox)
          have GW241 := zge HB hg
          have GE241 := zge HB hg
          have NB221_241 := znl BK221 hg
          have NB241_221 := znr BK221 hg
          have NB222_241 := znl BK222 hg
          have NB241_222 := znr BK222 hg
          replace HO226 := zsb HO226 hb
          replace BK221 := zb0 BK221 hb
          replace BK222 := zb0 BK222 hb
          replace HB := zhs HB hb
          clear hb hbox hg
          obtain ⟨Ao32, co32, eo32⟩ := Kd.S_slice HO226.out
          (first | subst eo32 | (injection eo32 with f1_ f2_ f3_; have f4_ := f1_.symm; have f5_ := f3_.symm; clear f1_ f2_ f3_; subst f4_; subst f5_))
          refine hK.out _ _ ⟨zc0 BK221 0 rfl, zc0 BK222 0 rfl, zc0 BK222 1 rfl, zc0 BK222 2 rfl, zc0 BK222 3 rfl, zc0 BK222 4 rfl, zc0 BK222 5 rfl⟩ (fun hHeld => ?_)
          clear hK K
          refine norm_ (a' := ?_) ?_ ?_
          rotate_left
          ·show Act.put _ (some 7) _ = _
           simp only [Act.put, zp1, zp2, zp3, i64_w, i32_w]
           rfl
          refine one_ (i := 4) (N := some 23) #[true, true, true, true, true, false, false, false, false, true, false, false, false] rfl rfl (one_of HT_.out (by kernel_rfl)) (by decide) (fun K hK => ?_)
          refine goes_ Try.func38 (by kernel_rfl) rfl #[.agg #[.slice Ao32 t224.length co32], .agg #[.int .i64 t227, .int .i64 t228, .int .i64 t229, .int .i64 t230, .int .i64 t231, .int .i64 t232]] (by rfl) rfl rfl (by (try simp only [List.map_toArray, List.map_cons, List.map_nil]); first | done | rfl | (simp only [List.length_drop, List.length_take]; rfl)) ?_
          with_reducible refine (spec_PopFront.calls k _ _ t224 t227 t228 t229 t230 t231 t232 t233 t234 t235 t236 t237 t238 t239 t240 _ ?side1 ?side2 A12.out).mono ?_
          (case side1 => repeat (first | exact (Kd.S_reads' HO226.out).2.2 | (with_reducible refine Kd.C_alloc ?_ _) | (with_reducible refine Kd.C_drewN ?_ _) | (with_reducible refine Kd.C_drew ?_)))
          (case side2 => exact (Kd.S_reads' HO226.out).2.1)
          rintro e w33 ⟨rfl, hb⟩
          refine ⟨_, rfl, ?_⟩
          replace HO226 := zsb HO226 hb
          replace BK221 := zb0 BK221 hb
          replace BK222 := zb0 BK222 hb
          replace BK241 := zb0 BK241 hb
          replace HB := zhs HB hb
          (try clear hb)
          (try clear hb2)
          (try clear hk)
          (try clear hi)
          refine hK.out _ _ ⟨zc0 BK221 0 rfl, zc0 BK222 0 rfl, zc0 BK222 1 rfl, zc0 BK222 2 rfl, zc0 BK222 3 rfl, zc0 BK222 4 rfl, zc0 BK222 5 rfl⟩ (fun hHeld => ?_)
          clear hK K
          refine norm_ (a' := ?_) ?_ ?_
          rotate_left
          ·show Act.put _ (some 23) _ = _
           simp only [Act.put, zp1, zp2, zp3, i64_w, i32_w]
           rfl
          refine pure_ (i := 5) (N := some 18) (v := ?_) (a' := ?_) #[true, true, true, true, true, true, false, false, false, true, false, false, false] rfl rfl (any_of HT_.out (by kernel_rfl)) (fun _ _ _ h => h) (Or.inl ⟨by rfl, ?_⟩) ?_ ?_
          rotate_left
          ·intro w'
           go_simp
           with_reducible rfl
          rotate_left
          ·simp only [Act.put, zp1, zp2, zp3, i64_w, i32_w]
           rfl
          refine pure_ (i := 6) (N := some 24) (v := ?_) (a' := ?_) #[true, true, true, true, true, true, true, false, false, true, false, false, false] rfl rfl (any_of HT_.out (by kernel_rfl)) (fun _ _ _ h => h) (Or.inl ⟨by rfl, ?_⟩) ?_ ?_
          rotate_left
          ·intro w'
           go_simp
           with_reducible rfl
          rotate_left
          ·simp only [Act.put, zp1, zp2, zp3, i64_w, i32_w]
           rfl
          refine pure_ (i := 7) (N := some 25) (v := ?_) (a' := ?_) #[true, true, true, true, true, true, true, true, false, true, false, false, false] rfl rfl (any_of HT_.out (by kernel_rfl)) (fun _ _ _ h => h) (Or.inl ⟨by rfl, ?_⟩) ?_ ?_
          rotate_left
          ·intro w'
           go_simp
           with_reducible rfl
          rotate_left
          ·simp only [Act.put, zp1, zp2, zp3, i64_w, i32_w]
           rfl
          refine pure_ (i := 8) (N := some 26) (v := ?_) (a' := ?_) #[true, true, true, true, true, true, true, true, true, true, false, false, false] rfl rfl (any_of HT_.out (by kernel_rfl)) (fun _ _ _ h => h) (Or.inl ⟨by rfl, ?_⟩) ?_ ?_
          rotate_left
          ·intro w'
           go_simp
           with_reducible rfl
          rotate_left
          ·simp only [Act.put, zp1, zp2, zp3, i64_w, i32_w]
           rfl
          exact norm_ (by simp only [putAll, Act.put, zp1, zp2, zp3]) (hCont (.slice Ao32 t224.length co32, gb241) _ ⟨hHeld, (zs0 HO226), (zk0 BK221), (zk0 BK222), (zk0 BK241), GW241.out, GE241.out, NB221_241.out, NB241_221.out, NB222_241.out, NB241_222.out, (zh0 HB)⟩)
        ·skip
         refine box_step ?hg (N := 7) ?hd (cs := #[.int .i64 0, .int .i64 0, .int .i64 0, .int .i64 0, .int .i64 0, .int .i64 0]) (t := 36) ?hr ?_; (case hd => rfl); (case hg => rfl); (case hr => first | (go_simp; done) | (go_simp; rfl))
         intro gb241 hg w30 hbox hb
         have BK241 := Aside0.mk (hbox)
         have GW241 := zge HB hg
         have GE241 := zge HB hg
         have NB221_241 := znl BK221 hg
         have NB241_221 := znr BK221 hg
         have NB222_241 := znl BK222 hg
         have NB241_222 := znr BK222 hg
         replace HO226 := zsb HO226 hb
         replace BK221 := zb0 BK221 hb
         replace BK222 := zb0 BK222 hb
         replace HB := zhs HB hb
         clear hb hbox hg
         refine hK.out _ _ ⟨zc0 BK221 0 rfl, zc0 BK222 0 rfl, zc0 BK222 1 rfl, zc0 BK222 2 rfl, zc0 BK222 3 rfl, zc0 BK222 4 rfl, zc0 BK222 5 rfl⟩ (fun hHeld => ?_)
         clear hK K
         refine norm_ (a' := ?_) ?_ ?_
         rotate_left
         ·show Act.put _ (some 7) _ = _
          simp only [Act.put, zp1, zp2, zp3, i64_w, i32_w]
          rfl
         refine one_ (i := 3) (N := some 22) #[true, true, true, true, false, false, false, false, false, true, false, false, false] rfl rfl (one_of HT_.out (by kernel_rfl)) (by decide) (fun K hK => ?_)
         refine goes_ Try.func17 (by kernel_rfl) rfl #[.agg #[.int .i64 a1_0, .int .i64 a1_1, .int .i64 a1_2, .int .i64 a1_3, .int .i64 a1_4, .int .i64 a1_5]] (by rfl) rfl rfl (by (try simp only [List.map_toArray, List.map_cons, List.map_nil]); first | done | rfl | (simp only [List.length_drop, List.length_take]; rfl)) ?_
         with_reducible refine (laws_toRing.calls a1_0 a1_1 a1_2 a1_3 a1_4 a1_5 t227 t228 t229 t230 t231 t232 _ A11.out).mono ?_
         rintro e w31 ⟨rfl, hb⟩
         refine ⟨_, rfl, ?_⟩
         replace HO226 := zsb HO226 hb
         replace BK221 := zb0 BK221 hb
         replace BK222 := zb0 BK222 hb
         replace BK241 := zb0 BK241 hb
         replace HB := zhs HB hb
         (try clear hb)
         (try clear hb2)
         (try clear hk)
         (try clear hi)
         obtain ⟨Ao32, co32, eo32⟩ := Kd.S_slice HO226.out
         (first | subst eo32 | (injection eo32 with f1_ f2_ f3_; have f4_ := f1_.symm; have f5_ := f3_.symm; clear f1_ f2_ f3_; subst f4_; subst f5_))
         refine hK.out _ _ ⟨zc0 BK221 0 rfl, zc0 BK222 0 rfl, zc0 BK222 1 rfl, zc0 BK222 2 rfl, zc0 BK222 3 rfl, zc0 BK222 4 rfl, zc0 BK222 5 rfl⟩ (fun hHeld => ?_)
         clear hK K
         refine norm_ (a' := ?_) ?_ ?_
         rotate_left
         ·show Act.put _ (some 22) _ = _
          simp only [Act.put, zp1, zp2, zp3, i64_w, i32_w]
          rfl
         refine one_ (i := 4) (N := some 23) #[true, true, true, true, true, false, false, false, false, true, false, false, false] rfl rfl (one_of HT_.out (by kernel_rfl)) (by decide) (fun K hK => ?_)
         refine goes_ Try.func38 (by kernel_rfl) rfl #[.agg #[.slice Ao32 t224.length co32], .agg #[.int .i64 t227, .int .i64 t228, .int .i64 t229, .int .i64 t230, .int .i64 t231, .int .i64 t232]] (by rfl) rfl rfl (by (try simp only [List.map_toArray, List.map_cons, List.map_nil]); first | done | rfl | (simp only [List.length_drop, List.length_take]; rfl)) ?_
         with_reducible refine (spec_PopFront.calls k _ _ t224 t227 t228 t229 t230 t231 t232 t233 t234 t235 t236 t237 t238 t239 t240 _ ?side1 ?side2 A12.out).mono ?_
         (case side1 => repeat (first | exact (Kd.S_reads' HO226.out).2.2 | (with_reducible refine Kd.C_alloc ?_ _) | (with_reducible refine Kd.C_drewN ?_ _) | (with_reducible refine Kd.C_drew ?_)))
         (case side2 => exact (Kd.S_reads' HO226.out).2.1)
         rintro e w33 ⟨rfl, hb⟩
         refine ⟨_, rfl, ?_⟩
         replace HO226 := zsb HO226 hb
         replace BK221 := zb0 BK221 hb
         replace BK222 := zb0 BK222 hb
         replace BK241 := zb0 BK241 hb
         replace HB := zhs HB hb
         (try clear hb)
         (try clear hb2)
         (try clear hk)
         (try clear hi)
         refine hK.out _ _ ⟨zc0 BK221 0 rfl, zc0 BK222 0 rfl, zc0 BK222 1 rfl, zc0 BK222 2 rfl, zc0 BK222 3 rfl, zc0 BK222 4 rfl, zc0 BK222 5 rfl⟩ (fun hHeld => ?_)
         clear hK K
         refine norm_ (a' := ?_) ?_ ?_
         rotate_left
         ·show Act.put _ (some 23) _ = _
          simp only [Act.put, zp1, zp2, zp3, i64_w, i32_w]
          rfl
         refine pure_ (i := 5) (N := some 18) (v := ?_) (a' := ?_) #[true, true, true, true, true, true, false, false, false, true, false, false, false] rfl rfl (any_of HT_.out (by kernel_rfl)) (fun _ _ _ h => h) (Or.inl ⟨by rfl, ?_⟩) ?_ ?_
         rotate_left
         ·intro w'
          go_simp
          with_reducible rfl
         rotate_left
         ·simp only [Act.put, zp1, zp2, zp3, i64_w, i32_w]
          rfl
         refine pure_ (i := 6) (N := some 24) (v := ?_) (a' := ?_) #[true, true, true, true, true, true, true, false, false, true, false, false, false] rfl rfl (any_of HT_.out (by kernel_rfl)) (fun _ _ _ h => h) (Or.inl ⟨by rfl, ?_⟩) ?_ ?_
         rotate_left
         ·intro w'
          go_simp
          with_reducible rfl
         rotate_left
         ·simp only [Act.put, zp1, zp2, zp3, i64_w, i32_w]
          rfl
         refine pure_ (i := 7) (N := some 25) (v := ?_) (a' := ?_) #[true, true, true, true, true, true, true, true, false, true, false, false, false] rfl rfl (any_of HT_.out (by kernel_rfl)) (fun _ _ _ h => h) (Or.inl ⟨by rfl, ?_⟩) ?_ ?_
         rotate_left
         ·intro w'
          go_simp
          with_reducible rfl
         rotate_left
         ·simp only [Act.put, zp1, zp2, zp3, i64_w, i32_w]
          rfl
         refine pure_ (i := 8) (N := some 26) (v := ?_) (a' := ?_) #[true, true, true, true, true, true, true, true, true, true, false, false, false] rfl rfl (any_of HT_.out (by kernel_rfl)) (fun _ _ _ h => h) (Or.inl ⟨by rfl, ?_⟩) ?_ ?_
         rotate_left
         ·intro w'
          go_simp
          with_reducible rfl
         rotate_left
         ·simp only [Act.put, zp1, zp2, zp3, i64_w, i32_w]
          rfl
         exact norm_ (by simp only [putAll, Act.put, zp1, zp2, zp3]) (hCont (.slice Ao32 t224.length co32, gb241) _ ⟨hHeld, (zs0 HO226), (zk0 BK221), (zk0 BK222), (zk0 BK241), GW241.out, GE241.out, NB221_241.out, NB241_221.out, NB222_241.out, NB241_222.out, (zh0 HB)⟩)
       ·skip
        refine box_step ?hg (N := 7) ?hd (cs := #[.int .i64 0, .int .i64 0, .int .i64 0, .int .i64 0, .int .i64 0, .int .i64 0]) (t := 36) ?hr ?_; (case hd => rfl); (case hg => rfl); (case hr => first | (go_simp; done) | (go_simp; rfl))
        intro gb241 hg w29 hbox hb
        have BK241 := Aside0.mk (hbox)
        have GW241 := zge HB hg
        have GE241 := zge HB hg
        have NB221_241 := znl BK221 hg
        have NB241_221 := znr BK221 hg
        have NB222_241 := znl BK222 hg
        have NB241_222 := znr BK222 hg
        replace BK221 := zb0 BK221 hb
        replace BK222 := zb0 BK222 hb
        replace HB := zhs HB hb
        clear hb hbox hg
        refine hK.out _ _ ⟨zc0 BK221 0 rfl, zc0 BK222 0 rfl, zc0 BK222 1 rfl, zc0 BK222 2 rfl, zc0 BK222 3 rfl, zc0 BK222 4 rfl, zc0 BK222 5 rfl⟩ (fun hHeld => ?_)
        clear hK K
        refine norm_ (a' := ?_) ?_ ?_
        rotate_left
        ·show Act.put _ (some 7) _ = _
         simp only [Act.put, zp1, zp2, zp3, i64_w, i32_w]
         rfl
        refine one_ (i := 1) (N := some 20) #[true, true, true, false, false, false, false, false, false, true, false, false, false] rfl rfl (one_of HT_.out (by kernel_rfl)) (by decide) (fun K hK => ?_)
        refine goes_ Try.func16 (by kernel_rfl) rfl #[.agg #[.slice A0_0 l0_0.length c0_0]] (by rfl) rfl rfl (by (try simp only [List.map_toArray, List.map_cons, List.map_nil]); first | done | rfl | (simp only [List.length_drop, List.length_take]; rfl)) ?_
        with_reducible refine (laws_toMemory.calls k _ _ l0_0 t224 _ ?side1 ?side2 A10.out).mono ?_
        (case side1 => repeat (first | exact (Kd.C_below HR0_0.out HB.out) | (with_reducible refine Kd.C_alloc ?_ _) | (with_reducible refine Kd.C_drewN ?_ _) | (with_reducible refine Kd.C_drew ?_)))
        (case side2 => exact HC0_0.out)
        rintro e w30 ⟨v225, rfl, ho0, hb⟩
        refine ⟨_, rfl, ?_⟩
        have HO226 := Aside0.mk (Kd.S_lower ho0 (below_size (zh0 HB)))
        replace BK221 := zb0 BK221 hb
        replace BK222 := zb0 BK222 hb
        replace BK241 := zb0 BK241 hb
        replace HB := zhs HB hb
        (try clear hb)
        (try clear hb2)
        (try clear hk)
        (try clear hi)
        (try clear ho0)
        refine hK.out _ _ ⟨zc0 BK221 0 rfl, zc0 BK222 0 rfl, zc0 BK222 1 rfl, zc0 BK222 2 rfl, zc0 BK222 3 rfl, zc0 BK222 4 rfl, zc0 BK222 5 rfl⟩ (fun hHeld => ?_)
        clear hK K
        refine norm_ (a' := ?_) ?_ ?_
        rotate_left
        ·show Act.put _ (some 20) _ = _
         simp only [Act.put, zp1, zp2, zp3, i64_w, i32_w]
         rfl
        refine one_ (i := 3) (N := some 22) #[true, true, true, true, false, false, false, false, false, true, false, false, false] rfl rfl (one_of HT_.out (by kernel_rfl)) (by decide) (fun K hK => ?_)
        refine goes_ Try.func17 (by kernel_rfl) rfl #[.agg #[.int .i64 a1_0, .int .i64 a1_1, .int .i64 a1_2, .int .i64 a1_3, .int .i64 a1_4, .int .i64 a1_5]] (by rfl) rfl rfl (by (try simp only [List.map_toArray, List.map_cons, List.map_nil]); first | done | rfl | (simp only [List.length_drop, List.length_take]; rfl)) ?_
        with_reducible refine (laws_toRing.calls a1_0 a1_1 a1_2 a1_3 a1_4 a1_5 t227 t228 t229 t230 t231 t232 _ A11.out).mono ?_
        rintro e w31 ⟨rfl, hb⟩
        refine ⟨_, rfl, ?_⟩
        replace HO226 := zsb HO226 hb
        replace BK221 := zb0 BK221 hb
        replace BK222 := zb0 BK222 hb
        replace BK241 := zb0 BK241 hb
        replace HB := zhs HB hb
        (try clear hb)
        (try clear hb2)
        (try clear hk)
        (try clear hi)
        obtain ⟨Ao32, co32, eo32⟩ := Kd.S_slice HO226.out
        (first | subst eo32 | (injection eo32 with f1_ f2_ f3_; have f4_ := f1_.symm; have f5_ := f3_.symm; clear f1_ f2_ f3_; subst f4_; subst f5_))
        refine hK.out _ _ ⟨zc0 BK221 0 rfl, zc0 BK222 0 rfl, zc0 BK222 1 rfl, zc0 BK222 2 rfl, zc0 BK222 3 rfl, zc0 BK222 4 rfl, zc0 BK222 5 rfl⟩ (fun hHeld => ?_)
        clear hK K
        refine norm_ (a' := ?_) ?_ ?_
        rotate_left
        ·show Act.put _ (some 22) _ = _
         simp only [Act.put, zp1, zp2, zp3, i64_w, i32_w]
         rfl
        refine one_ (i := 4) (N := some 23) #[true, true, true, true, true, false, false, false, false, true, false, false, false] rfl rfl (one_of HT_.out (by kernel_rfl)) (by decide) (fun K hK => ?_)
        refine goes_ Try.func38 (by kernel_rfl) rfl #[.agg #[.slice Ao32 t224.length co32], .agg #[.int .i64 t227, .int .i64 t228, .int .i64 t229, .int .i64 t230, .int .i64 t231, .int .i64 t232]] (by rfl) rfl rfl (by (try simp only [List.map_toArray, List.map_cons, List.map_nil]); first | done | rfl | (simp only [List.length_drop, List.length_take]; rfl)) ?_
        with_reducible refine (spec_PopFront.calls k _ _ t224 t227 t228 t229 t230 t231 t232 t233 t234 t235 t236 t237 t238 t239 t240 _ ?side1 ?side2 A12.out).mono ?_
        (case side1 => repeat (first | exact (Kd.S_reads' HO226.out).2.2 | (with_reducible refine Kd.C_alloc ?_ _) | (with_reducible refine Kd.C_drewN ?_ _) | (with_reducible refine Kd.C_drew ?_)))
        (case side2 => exact (Kd.S_reads' HO226.out).2.1)
        rintro e w33 ⟨rfl, hb⟩
        refine ⟨_, rfl, ?_⟩
        replace HO226 := zsb HO226 hb
        replace BK221 := zb0 BK221 hb
        replace BK222 := zb0 BK222 hb
        replace BK241 := zb0 BK241 hb
        replace HB := zhs HB hb
        (try clear hb)
        (try clear hb2)
        (try clear hk)
        (try clear hi)
        refine hK.out _ _ ⟨zc0 BK221 0 rfl, zc0 BK222 0 rfl, zc0 BK222 1 rfl, zc0 BK222 2 rfl, zc0 BK222 3 rfl, zc0 BK222 4 rfl, zc0 BK222 5 rfl⟩ (fun hHeld => ?_)
        clear hK K
        refine norm_ (a' := ?_) ?_ ?_
        rotate_left
        ·show Act.put _ (some 23) _ = _
         simp only [Act.put, zp1, zp2, zp3, i64_w, i32_w]
         rfl
        refine pure_ (i := 5) (N := some 18) (v := ?_) (a' := ?_) #[true, true, true, true, true, true, false, false, false, true, false, false, false] rfl rfl (any_of HT_.out (by kernel_rfl)) (fun _ _ _ h => h) (Or.inl ⟨by rfl, ?_⟩) ?_ ?_
        rotate_left
        ·intro w'
         go_simp
         with_reducible rfl
        rotate_left
        ·simp only [Act.put, zp1, zp2, zp3, i64_w, i32_w]
         rfl
        refine pure_ (i := 6) (N := some 24) (v := ?_) (a' := ?_) #[true, true, true, true, true, true, true, false, false, true, false, false, false] rfl rfl (any_of HT_.out (by kernel_rfl)) (fun _ _ _ h => h) (Or.inl ⟨by rfl, ?_⟩) ?_ ?_
        rotate_left
        ·intro w'
         go_simp
         with_reducible rfl
        rotate_left
        ·simp only [Act.put, zp1, zp2, zp3, i64_w, i32_w]
         rfl
        refine pure_ (i := 7) (N := some 25) (v := ?_) (a' := ?_) #[true, true, true, true, true, true, true, true, false, true, false, false, false] rfl rfl (any_of HT_.out (by kernel_rfl)) (fun _ _ _ h => h) (Or.inl ⟨by rfl, ?_⟩) ?_ ?_
        rotate_left
        ·intro w'
         go_simp
         with_reducible rfl
        rotate_left
        ·simp only [Act.put, zp1, zp2, zp3, i64_w, i32_w]
         rfl
        refine pure_ (i := 8) (N := some 26) (v := ?_) (a' := ?_) #[true, true, true, true, true, true, true, true, true, true, false, false, false] rfl rfl (any_of HT_.out (by kernel_rfl)) (fun _ _ _ h => h) (Or.inl ⟨by rfl, ?_⟩) ?_ ?_
        rotate_left
        ·intro w'
         go_simp
         with_reducible rfl
        rotate_left
        ·simp only [Act.put, zp1, zp2, zp3, i64_w, i32_w]
         rfl
        exact norm_ (by simp only [putAll, Act.put, zp1, zp2, zp3]) (hCont (.slice Ao32 t224.length co32, gb241) _ ⟨hHeld, (zs0 HO226), (zk0 BK221), (zk0 BK222), (zk0 BK241), GW241.out, GE241.out, NB221_241.out, NB241_221.out, NB222_241.out, NB241_222.out, (zh0 HB)⟩)
      rintro ⟨v225, gb241⟩ w34 ⟨hS_, h0_, h1_, h2_, h3_, h4_, h5_, h6_, h7_, h8_, h9_, h10_⟩
      try dsimp only at hS_ h0_ h1_ h2_ h3_ h4_ h5_ h6_ h7_ h8_ h9_ h10_
      have HO226 := Aside0.mk h0_
      have BK241 := Aside0.mk h3_
      have GW241 := Aside0.mk h4_
      have GE241 := Aside0.mk h5_
      have NB221_241 := Aside0.mk h6_
      have NB241_221 := Aside0.mk h7_
      have NB222_241 := Aside0.mk h8_
      have NB241_222 := Aside0.mk h9_
      replace BK221 := Aside0.mk h1_
      replace BK222 := Aside0.mk h2_
      replace HB := Aside0.mk h10_
      clear h0_ h1_ h2_ h3_ h4_ h5_ h6_ h7_ h8_ h9_ h10_
      have hHeld := hS_
      refine norm_ (a' := ?_) ?_ ?_
      rotate_left
      ·simp only [putAll, Act.put, zp1, zp2, zp3]
       rfl
      refine pure_ (i := 10) (N := some 6) (v := ?_) (a' := ?_) #[true, true, true, true, true, true, true, true, true, true, true, false, false] rfl rfl (any_of HT_.out (by kernel_rfl)) (fun _ _ _ h => h) (Or.inl ⟨by rfl, ?_⟩) ?_ ?_
      rotate_left
      ·intro w'
       go_simp
       with_reducible rfl
      rotate_left
      ·simp only [Act.put, zp1, zp2, zp3, i64_w, i32_w]
       rfl
      refine one_ (i := 11) (N := none) #[true, true, true, true, true, true, true, true, true, true, true, true, false] rfl rfl (one_of HT_.out (by kernel_rfl)) (by decide) (fun K hK => ?_)
      have hs35 : w34.cell? ⟨gb241, 0, none⟩ = some (.int .i64 0) := zc0 BK241 0 rfl
      have hfs35 := blk_frozen BK241.out 0
      have hns35_0 := NB221_241.out
      have hns35_1 := NB222_241.out
      have hms35_0 := NB241_221.out
      have hms35_1 := NB241_222.out
      have hs36 : w34.cell? ⟨gb241, 1, none⟩ = some (.int .i64 0) := zc0 BK241 1 rfl
      have hfs36 := blk_frozen BK241.out 1
      have hns36_0 := NB221_241.out
      have hns36_1 := NB222_241.out
      have hms36_0 := NB241_221.out
      have hms36_1 := NB241_222.out
      have hs37 : w34.cell? ⟨gb241, 2, none⟩ = some (.int .i64 0) := zc0 BK241 2 rfl
      have hfs37 := blk_frozen BK241.out 2
      have hns37_0 := NB221_241.out
      have hns37_1 := NB222_241.out
      have hms37_0 := NB241_221.out
      have hms37_1 := NB241_222.out
      have hs38 : w34.cell? ⟨gb241, 3, none⟩ = some (.int .i64 0) := zc0 BK241 3 rfl
      have hfs38 := blk_frozen BK241.out 3
      have hns38_0 := NB221_241.out
      have hns38_1 := NB222_241.out
      have hms38_0 := NB241_221.out
      have hms38_1 := NB241_222.out
      have hs39 : w34.cell? ⟨gb241, 4, none⟩ = some (.int .i64 0) := zc0 BK241 4 rfl
      have hfs39 := blk_frozen BK241.out 4
      have hns39_0 := NB221_241.out
      have hns39_1 := NB222_241.out
      have hms39_0 := NB241_221.out
      have hms39_1 := NB241_222.out
      have hs40 : w34.cell? ⟨gb241, 5, none⟩ = some (.int .i64 0) := zc0 BK241 5 rfl
      have hfs40 := blk_frozen BK241.out 5
      have hns40_0 := NB221_241.out
      have hns40_1 := NB222_241.out
      have hms40_0 := NB241_221.out
      have hms40_1 := NB241_222.out
      refine skip_ (w1 := ?_) (by rfl) rfl ?_ ?_
      rotate_left
      ·go_simp
       rfl
      refine hK.out _ _ ⟨((cell_far (p := ⟨gb241, _, none⟩) NB221_241.out _).trans (((cell_far (p := ⟨gb241, _, none⟩) NB221_241.out _).trans (((cell_far (p := ⟨gb241, _, none⟩) NB221_241.out _).trans (((cell_far (p := ⟨gb241, _, none⟩) NB221_241.out _).trans (((cell_far (p := ⟨gb241, _, none⟩) NB221_241.out _).trans (((cell_far (p := ⟨gb241, _, none⟩) NB221_241.out _).trans (hHeld.1)))))))))))), ((cell_far (p := ⟨gb241, _, none⟩) NB222_241.out _).trans (((cell_far (p := ⟨gb241, _, none⟩) NB222_241.out _).trans (((cell_far (p := ⟨gb241, _, none⟩) NB222_241.out _).trans (((cell_far (p := ⟨gb241, _, none⟩) NB222_241.out _).trans (((cell_far (p := ⟨gb241, _, none⟩) NB222_241.out _).trans (((cell_far (p := ⟨gb241, _, none⟩) NB222_241.out _).trans (hHeld.2.1)))))))))))), ((cell_far (p := ⟨gb241, _, none⟩) NB222_241.out _).trans (((cell_far (p := ⟨gb241, _, none⟩) NB222_241.out _).trans (((cell_far (p := ⟨gb241, _, none⟩) NB222_241.out _).trans (((cell_far (p := ⟨gb241, _, none⟩) NB222_241.out _).trans (((cell_far (p := ⟨gb241, _, none⟩) NB222_241.out _).trans (((cell_far (p := ⟨gb241, _, none⟩) NB222_241.out _).trans (hHeld.2.2.1)))))))))))), ((cell_far (p := ⟨gb241, _, none⟩) NB222_241.out _).trans (((cell_far (p := ⟨gb241, _, none⟩) NB222_241.out _).trans (((cell_far (p := ⟨gb241, _, none⟩) NB222_241.out _).trans (((cell_far (p := ⟨gb241, _, none⟩) NB222_241.out _).trans (((cell_far (p := ⟨gb241, _, none⟩) NB222_241.out _).trans (((cell_far (p := ⟨gb241, _, none⟩) NB222_241.out _).trans (hHeld.2.2.2.1)))))))))))), ((cell_far (p := ⟨gb241, _, none⟩) NB222_241.out _).trans (((cell_far (p := ⟨gb241, _, none⟩) NB222_241.out _).trans (((cell_far (p := ⟨gb241, _, none⟩) NB222_241.out _).trans (((cell_far (p := ⟨gb241, _, none⟩) NB222_241.out _).trans (((cell_far (p := ⟨gb241, _, none⟩) NB222_241.out _).trans (((cell_far (p := ⟨gb241, _, none⟩) NB222_241.out _).trans (hHeld.2.2.2.2.1)))))))))))), ((cell_far (p := ⟨gb241, _, none⟩) NB222_241.out _).trans (((cell_far (p := ⟨gb241, _, none⟩) NB222_241.out _).trans (((cell_far (p := ⟨gb241, _, none⟩) NB222_241.out _).trans (((cell_far (p := ⟨gb241, _, none⟩) NB222_241.out _).trans (((cell_far (p := ⟨gb241, _, none⟩) NB222_241.out _).trans (((cell_far (p := ⟨gb241, _, none⟩) NB222_241.out _).trans (hHeld.2.2.2.2.2.1)))))))))))), ((cell_far (p := ⟨gb241, _, none⟩) NB222_241.out _).trans (((cell_far (p := ⟨gb241, _, none⟩) NB222_241.out _).trans (((cell_far (p := ⟨gb241, _, none⟩) NB222_241.out _).trans (((cell_far (p := ⟨gb241, _, none⟩) NB222_241.out _).trans (((cell_far (p := ⟨gb241, _, none⟩) NB222_241.out _).trans (((cell_far (p := ⟨gb241, _, none⟩) NB222_241.out _).trans (hHeld.2.2.2.2.2.2))))))))))))⟩ (fun hHeld => ?_)
      clear hK K
      refine pure_ (i := 12) (N := some 8) (v := ?_) (a' := ?_) #[true, true, true, true, true, true, true, true, true, true, true, true, true] rfl rfl (any_of HT_.out (by kernel_rfl)) (fun _ _ _ h => h) (Or.inl ⟨by rfl, ?_⟩) ?_ ?_
      rotate_left
      ·intro w'
       go_simp
       with_reducible rfl
      rotate_left
      ·simp only [Act.put, zp1, zp2, zp3, i64_w, i32_w]
       rfl
      refine done_ (done_of HT_.out (by kernel_rfl)) ?_
      have hnb41 := NB221_241.out
      have hnc41 := NB241_221.out
      have hcz42_0 : w34.cell? ⟨gb221, 0, none⟩ = some (.slice A0_0 l0_0.length c0_0) := zc0 BK221 0 rfl
      have hfz42_0 := blk_frozen BK221.out 0
      try go_wp2_with (first | ((with_reducible refine gate_callee (f := 16) rfl ?_); refine goesL_ (some 28) rfl rfl Try.func16 (by kernel_rfl) rfl #[.agg #[.slice A0_0 l0_0.length c0_0]] rfl (by (try simp only [List.map_toArray, List.map_cons, List.map_nil]); first | done | rfl | (simp only [List.length_drop, List.length_take]; rfl)) ?_; (with_reducible refine (laws_toMemory.calls k _ _ l0_0 t242 _ ?side1 ?side2 A13.out).mono ?_); (case side1 => exact Kd.C_below HR0_0.out (by repeat (first | (with_reducible first | exact HB.out | apply below_alloc | apply pw_below_drewN | apply below_drew1 | refine below_set ?_ GE221.out | refine below_set ?_ GE222.out | refine below_set ?_ GE241.out) | exact HB.out))); (case side2 => exact HC0_0.out); rintro e w43 ⟨v243, rfl, ho0, hb⟩; refine ⟨_, rfl, ?_⟩; have HO244 := Aside0.mk (Kd.S_lower (Kd.S_new' ho0 (Kd.S_lt (by (with_reducible repeat (first | apply Kd.S_alloc | apply Kd.S_drewN | apply Kd.S_drew)); exact (Kd.S_mono (Kd.S_far (p := ⟨gb241, 5, none⟩) (Kd.S_far (p := ⟨gb241, 4, none⟩) (Kd.S_far (p := ⟨gb241, 3, none⟩) (Kd.S_far (p := ⟨gb241, 2, none⟩) (Kd.S_far (p := ⟨gb241, 1, none⟩) (Kd.S_far (p := ⟨gb241, 0, none⟩) (Kd.S_types HO226.out BK241.out (by decide)) (fun _ hk => hk.2) (.int .i64 t234)) (fun _ hk => hk.2) (.int .i64 t235)) (fun _ hk => hk.2) (.int .i64 t236)) (fun _ hk => hk.2) (.int .i64 t237)) (fun _ hk => hk.2) (.int .i64 t238)) (fun _ hk => hk.2) (.int .i64 t239)) (fun _ h_ => h_.1))))) (below_size (by repeat (first | (with_reducible first | exact HB.out | apply below_alloc | apply pw_below_drewN | apply below_drew1 | refine below_set ?_ GE221.out | refine below_set ?_ GE222.out | refine below_set ?_ GE241.out) | exact HB.out)))); replace HO226 := Aside0.mk (Kd.S_elder' (by (with_reducible repeat (first | apply Kd.S_alloc | apply Kd.S_drewN | apply Kd.S_drew)); exact (Kd.S_mono (Kd.S_far (p := ⟨gb241, 5, none⟩) (Kd.S_far (p := ⟨gb241, 4, none⟩) (Kd.S_far (p := ⟨gb241, 3, none⟩) (Kd.S_far (p := ⟨gb241, 2, none⟩) (Kd.S_far (p := ⟨gb241, 1, none⟩) (Kd.S_far (p := ⟨gb241, 0, none⟩) (Kd.S_types HO226.out BK241.out (by decide)) (fun _ hk => hk.2) (.int .i64 t234)) (fun _ hk => hk.2) (.int .i64 t235)) (fun _ hk => hk.2) (.int .i64 t236)) (fun _ hk => hk.2) (.int .i64 t237)) (fun _ hk => hk.2) (.int .i64 t238)) (fun _ hk => hk.2) (.int .i64 t239)) (fun _ h_ => h_.1))) (Kd.S_base ho0) hb); replace BK221 := Aside0.mk (blk_below (g := gb221) (o := .cells #[.slice A0_0 l0_0.length c0_0] 24 (0, 0)) (by (with_reducible repeat (first | refine blk_drewN ?_ _ | refine blk_drew ?_ | refine blk_alloc ?_ _)); refine blk_far ?_ NB221_241.out _; (with_reducible repeat (first | refine blk_drewN ?_ _ | refine blk_drew ?_ | refine blk_alloc ?_ _)); refine blk_far ?_ NB221_241.out _; (with_reducible repeat (first | refine blk_drewN ?_ _ | refine blk_drew ?_ | refine blk_alloc ?_ _)); refine blk_far ?_ NB221_241.out _; (with_reducible repeat (first | refine blk_drewN ?_ _ | refine blk_drew ?_ | refine blk_alloc ?_ _)); refine blk_far ?_ NB221_241.out _; (with_reducible repeat (first | refine blk_drewN ?_ _ | refine blk_drew ?_ | refine blk_alloc ?_ _)); refine blk_far ?_ NB221_241.out _; (with_reducible repeat (first | refine blk_drewN ?_ _ | refine blk_drew ?_ | refine blk_alloc ?_ _)); refine blk_far ?_ NB221_241.out _; (with_reducible repeat (first | refine blk_drewN ?_ _ | refine blk_drew ?_ | refine blk_alloc ?_ _)); exact BK221.out) hb); replace BK222 := Aside0.mk (blk_below (g := gb222) (o := .cells #[.int .i64 a1_0, .int .i64 a1_1, .int .i64 a1_2, .int .i64 a1_3, .int .i64 a1_4, .int .i64 a1_5] 28 (0, 0)) (by (with_reducible repeat (first | refine blk_drewN ?_ _ | refine blk_drew ?_ | refine blk_alloc ?_ _)); refine blk_far ?_ NB222_241.out _; (with_reducible repeat (first | refine blk_drewN ?_ _ | refine blk_drew ?_ | refine blk_alloc ?_ _)); refine blk_far ?_ NB222_241.out _; (with_reducible repeat (first | refine blk_drewN ?_ _ | refine blk_drew ?_ | refine blk_alloc ?_ _)); refine blk_far ?_ NB222_241.out _; (with_reducible repeat (first | refine blk_drewN ?_ _ | refine blk_drew ?_ | refine blk_alloc ?_ _)); refine blk_far ?_ NB222_241.out _; (with_reducible repeat (first | refine blk_drewN ?_ _ | refine blk_drew ?_ | refine blk_alloc ?_ _)); refine blk_far ?_ NB222_241.out _; (with_reducible repeat (first | refine blk_drewN ?_ _ | refine blk_drew ?_ | refine blk_alloc ?_ _)); refine blk_far ?_ NB222_241.out _; (with_reducible repeat (first | refine blk_drewN ?_ _ | refine blk_drew ?_ | refine blk_alloc ?_ _)); exact BK222.out) hb); replace BK241 := Aside0.mk (blk_below (g := gb241) (o := .cells #[.int .i64 t234, .int .i64 t235, .int .i64 t236, .int .i64 t237, .int .i64 t238, .int .i64 t239] 36 (0, 0)) (by (with_reducible repeat (first | refine blk_drewN ?_ _ | refine blk_drew ?_ | refine blk_alloc ?_ _)); refine blk_put (cs := #[.int .i64 t234, .int .i64 t235, .int .i64 t236, .int .i64 t237, .int .i64 t238, .int .i64 0]) ?_ 5 _ rfl; (with_reducible repeat (first | refine blk_drewN ?_ _ | refine blk_drew ?_ | refine blk_alloc ?_ _)); refine blk_put (cs := #[.int .i64 t234, .int .i64 t235, .int .i64 t236, .int .i64 t237, .int .i64 0, .int .i64 0]) ?_ 4 _ rfl; (with_reducible repeat (first | refine blk_drewN ?_ _ | refine blk_drew ?_ | refine blk_alloc ?_ _)); refine blk_put (cs := #[.int .i64 t234, .int .i64 t235, .int .i64 t236, .int .i64 0, .int .i64 0, .int .i64 0]) ?_ 3 _ rfl; (with_reducible repeat (first | refine blk_drewN ?_ _ | refine blk_drew ?_ | refine blk_alloc ?_ _)); refine blk_put (cs := #[.int .i64 t234, .int .i64 t235, .int .i64 0, .int .i64 0, .int .i64 0, .int .i64 0]) ?_ 2 _ rfl; (with_reducible repeat (first | refine blk_drewN ?_ _ | refine blk_drew ?_ | refine blk_alloc ?_ _)); refine blk_put (cs := #[.int .i64 t234, .int .i64 0, .int .i64 0, .int .i64 0, .int .i64 0, .int .i64 0]) ?_ 1 _ rfl; (with_reducible repeat (first | refine blk_drewN ?_ _ | refine blk_drew ?_ | refine blk_alloc ?_ _)); refine blk_put (cs := #[.int .i64 0, .int .i64 0, .int .i64 0, .int .i64 0, .int .i64 0, .int .i64 0]) ?_ 0 _ rfl; (with_reducible repeat (first | refine blk_drewN ?_ _ | refine blk_drew ?_ | refine blk_alloc ?_ _)); exact BK241.out) hb); replace HB := Aside0.mk (below_step (by repeat (first | (with_reducible first | exact HB.out | apply below_alloc | apply pw_below_drewN | apply below_drew1 | refine below_set ?_ GE221.out | refine below_set ?_ GE222.out | refine below_set ?_ GE241.out) | exact HB.out)) hb); (try clear hb); (try clear hb2); (try clear hk); (try clear hi); (try clear ho0)) | ((with_reducible refine gate_dst (N := 9) rfl ?_); refine box_event ?hg (N := 9) ?hd (cs := #[.slice none 0 0]) (t := 32) ?hr ?_; (case hd => rfl); (case hg => rfl); (case hr => first | (go_simp; done) | (go_simp; rfl)); intro gb245 hg w44 hbox hb; have BK245 := Aside0.mk (hbox); have GW245 := Aside0.mk ((by rw [hg]; exact (below_size (by repeat (first | (with_reducible first | exact HB.out | apply below_alloc | apply pw_below_drewN | apply below_drew1 | refine below_set ?_ GE221.out | refine below_set ?_ GE222.out | refine below_set ?_ GE241.out) | exact HB.out))) : w.heap.size ≤ gb245)); have GE245 := Aside0.mk ((by rw [hg]; exact (below_size (by repeat (first | (with_reducible first | exact HB.out | apply below_alloc | apply pw_below_drewN | apply below_drew1 | refine below_set ?_ GE221.out | refine below_set ?_ GE222.out | refine below_set ?_ GE241.out) | exact HB.out))) : w.heap.size ≤ gb245)); have NB221_245 := Aside0.mk ((by rw [hg]; exact Nat.ne_of_lt (blk_lt (g := gb221) (o := .cells #[.slice A0_0 l0_0.length c0_0] 24 (0, 0)) (by (with_reducible repeat (first | refine blk_drewN ?_ _ | refine blk_drew ?_ | refine blk_alloc ?_ _)); exact BK221.out)) : gb221 ≠ gb245)); have NB245_221 := Aside0.mk ((by rw [hg]; exact Nat.ne_of_gt (blk_lt (g := gb221) (o := .cells #[.slice A0_0 l0_0.length c0_0] 24 (0, 0)) (by (with_reducible repeat (first | refine blk_drewN ?_ _ | refine blk_drew ?_ | refine blk_alloc ?_ _)); exact BK221.out)) : gb245 ≠ gb221)); have NB222_245 := Aside0.mk ((by rw [hg]; exact Nat.ne_of_lt (blk_lt (g := gb222) (o := .cells #[.int .i64 a1_0, .int .i64 a1_1, .int .i64 a1_2, .int .i64 a1_3, .int .i64 a1_4, .int .i64 a1_5] 28 (0, 0)) (by (with_reducible repeat (first | refine blk_drewN ?_ _ | refine blk_drew ?_ | refine blk_alloc ?_ _)); exact BK222.out)) : gb222 ≠ gb245)); have NB245_222 := Aside0.mk ((by rw [hg]; exact Nat.ne_of_gt (blk_lt (g := gb222) (o := .cells #[.int .i64 a1_0, .int .i64 a1_1, .int .i64 a1_2, .int .i64 a1_3, .int .i64 a1_4, .int .i64 a1_5] 28 (0, 0)) (by (with_reducible repeat (first | refine blk_drewN ?_ _ | refine blk_drew ?_ | refine blk_alloc ?_ _)); exact BK222.out)) : gb245 ≠ gb222)); have NB241_245 := Aside0.mk ((by rw [hg]; exact Nat.ne_of_lt (blk_lt (g := gb241) (o := .cells #[.int .i64 t234, .int .i64 t235, .int .i64 t236, .int .i64 t237, .int .i64 t238, .int .i64 t239] 36 (0, 0)) (by (with_reducible repeat (first | refine blk_drewN ?_ _ | refine blk_drew ?_ | refine blk_alloc ?_ _)); exact BK241.out)) : gb241 ≠ gb245)); have NB245_241 := Aside0.mk ((by rw [hg]; exact Nat.ne_of_gt (blk_lt (g := gb241) (o := .cells #[.int .i64 t234, .int .i64 t235, .int .i64 t236, .int .i64 t237, .int .i64 t238, .int .i64 t239] 36 (0, 0)) (by (with_reducible repeat (first | refine blk_drewN ?_ _ | refine blk_drew ?_ | refine blk_alloc ?_ _)); exact BK241.out)) : gb245 ≠ gb241)); replace HO226 := zsb HO226 hb; replace HO244 := zsb HO244 hb; replace BK221 := Aside0.mk (blk_below (g := gb221) (o := .cells #[.slice A0_0 l0_0.length c0_0] 24 (0, 0)) (by (with_reducible repeat (first | refine blk_drewN ?_ _ | refine blk_drew ?_ | refine blk_alloc ?_ _)); exact BK221.out) hb); replace BK222 := Aside0.mk (blk_below (g := gb222) (o := .cells #[.int .i64 a1_0, .int .i64 a1_1, .int .i64 a1_2, .int .i64 a1_3, .int .i64 a1_4, .int .i64 a1_5] 28 (0, 0)) (by (with_reducible repeat (first | refine blk_drewN ?_ _ | refine blk_drew ?_ | refine blk_alloc ?_ _)); exact BK222.out) hb); replace BK241 := Aside0.mk (blk_below (g := gb241) (o := .cells #[.int .i64 t234, .int .i64 t235, .int .i64 t236, .int .i64 t237, .int .i64 t238, .int .i64 t239] 36 (0, 0)) (by (with_reducible repeat (first | refine blk_drewN ?_ _ | refine blk_drew ?_ | refine blk_alloc ?_ _)); exact BK241.out) hb); replace HB := Aside0.mk (below_step (by repeat (first | (with_reducible first | exact HB.out | apply below_alloc | apply pw_below_drewN | apply below_drew1 | refine below_set ?_ GE221.out | refine below_set ?_ GE222.out | refine below_set ?_ GE241.out) | exact HB.out)) hb); clear hb hbox hg; obtain ⟨Ao45, co45, eo45⟩ := Kd.S_slice HO244.out; subst eo45; have hnb46 := NB245_221.out; have hnc46 := NB221_245.out; have hnb47 := NB245_222.out; have hnc47 := NB222_245.out; have hnb48 := NB245_241.out; have hnc48 := NB241_245.out; have hcz49_0 : w44.cell? ⟨gb245, 0, none⟩ = some (.slice none 0 0) := zc0 BK245 0 rfl; have hfz49_0 := blk_frozen BK245.out 0))
      have n0_ : Aside0 (Kd.S (Kd.slice 5 (Kd.int .u8)) 65 (w44.setCell ⟨gb245, 0, none⟩ (.slice Ao45 t242.length co45)) w.heap.size (fun k_ => some k_ ≠ (.slice Ao45 t242.length co45 : Value).ownBlock) v225 t224) := ⟨by (with_reducible repeat (first | apply Kd.S_alloc | apply Kd.S_drewN | apply Kd.S_drew)); exact Kd.S_mono (Kd.S_far (p := ⟨gb245, 0, none⟩) (Kd.S_types HO226.out BK245.out (by decide)) (fun _ hk => hk.2) (.slice Ao45 t242.length co45)) (fun _ hk => hk.1.2)⟩
      have n1_ : Aside0 (Kd.S (Kd.slice 5 (Kd.int .u8)) 65 (w44.setCell ⟨gb245, 0, none⟩ (.slice Ao45 t242.length co45)) w.heap.size (fun k_ => some k_ ≠ (v225 : Value).ownBlock) (.slice Ao45 t242.length co45) t242) := ⟨by (with_reducible repeat (first | apply Kd.S_alloc | apply Kd.S_drewN | apply Kd.S_drew)); exact Kd.S_mono (Kd.S_far (p := ⟨gb245, 0, none⟩) (Kd.S_types HO244.out BK245.out (by decide)) (fun _ hk => hk.2) (.slice Ao45 t242.length co45)) (fun _ hk => hk.1.2)⟩
      have n2_ : Aside0 ((w44.setCell ⟨gb245, 0, none⟩ (.slice Ao45 t242.length co45)).heap[gb221]? = some (.cells #[.slice A0_0 l0_0.length c0_0] 24 (0, 0))) := ⟨by (with_reducible repeat (first | refine blk_drewN ?_ _ | refine blk_drew ?_ | refine blk_alloc ?_ _)); refine blk_far ?_ NB221_245.out _; (with_reducible repeat (first | refine blk_drewN ?_ _ | refine blk_drew ?_ | refine blk_alloc ?_ _)); exact BK221.out⟩
      have n3_ : Aside0 ((w44.setCell ⟨gb245, 0, none⟩ (.slice Ao45 t242.length co45)).heap[gb222]? = some (.cells #[.int .i64 a1_0, .int .i64 a1_1, .int .i64 a1_2, .int .i64 a1_3, .int .i64 a1_4, .int .i64 a1_5] 28 (0, 0))) := ⟨by (with_reducible repeat (first | refine blk_drewN ?_ _ | refine blk_drew ?_ | refine blk_alloc ?_ _)); refine blk_far ?_ NB222_245.out _; (with_reducible repeat (first | refine blk_drewN ?_ _ | refine blk_drew ?_ | refine blk_alloc ?_ _)); exact BK222.out⟩
      have n4_ : Aside0 ((w44.setCell ⟨gb245, 0, none⟩ (.slice Ao45 t242.length co45)).heap[gb241]? = some (.cells #[.int .i64 t234, .int .i64 t235, .int .i64 t236, .int .i64 t237, .int .i64 t238, .int .i64 t239] 36 (0, 0))) := ⟨by (with_reducible repeat (first | refine blk_drewN ?_ _ | refine blk_drew ?_ | refine blk_alloc ?_ _)); refine blk_far ?_ NB241_245.out _; (with_reducible repeat (first | refine blk_drewN ?_ _ | refine blk_drew ?_ | refine blk_alloc ?_ _)); exact BK241.out⟩
      have n5_ : Aside0 ((w44.setCell ⟨gb245, 0, none⟩ (.slice Ao45 t242.length co45)).heap[gb245]? = some (.cells #[.slice Ao45 t242.length co45] 32 (0, 0))) := ⟨by (with_reducible repeat (first | refine blk_drewN ?_ _ | refine blk_drew ?_ | refine blk_alloc ?_ _)); refine blk_put (cs := #[.slice none 0 0]) ?_ 0 _ rfl; (with_reducible repeat (first | refine blk_drewN ?_ _ | refine blk_drew ?_ | refine blk_alloc ?_ _)); exact BK245.out⟩
      have n6_ : Aside0 (Below w.heap.size w (w44.setCell ⟨gb245, 0, none⟩ (.slice Ao45 t242.length co45))) := ⟨by repeat (first | (with_reducible first | exact HB.out | apply below_alloc | apply pw_below_drewN | apply below_drew1 | refine below_set ?_ GE221.out | refine below_set ?_ GE222.out | refine below_set ?_ GE241.out | refine below_set ?_ GE245.out) | exact HB.out)⟩
      (try clear HO226)
      (try clear HO244)
      (try clear BK221)
      (try clear BK222)
      (try clear BK241)
      (try clear BK245)
      (try clear HB)
      generalize (w44.setCell ⟨gb245, 0, none⟩ (.slice Ao45 t242.length co45)) = w50 at n0_ n1_ n2_ n3_ n4_ n5_ n6_ ⊢
      have HO226 := n0_
      have HO244 := n1_
      have BK221 := n2_
      have BK222 := n3_
      have BK241 := n4_
      have BK245 := n5_
      have HB := n6_
      clear n0_ n1_ n2_ n3_ n4_ n5_ n6_
      replace HO226 := Aside0.mk (Kd.S_drew HO226.out)
      replace HO244 := Aside0.mk (Kd.S_drew HO244.out)
      replace BK221 := Aside0.mk (blk_drew BK221.out)
      replace BK222 := Aside0.mk (blk_drew BK222.out)
      replace BK241 := Aside0.mk (blk_drew BK241.out)
      replace BK245 := Aside0.mk (blk_drew BK245.out)
      replace HB := Aside0.mk (below_drew1 HB.out)
      refine start_ (n := 12) (S := fun w' => w'.cell? ⟨gb245, 0, none⟩ = some (.slice Ao45 t242.length co45) ∧ w'.cell? ⟨gb222, 0, none⟩ = some (.int .i64 a1_0) ∧ w'.cell? ⟨gb222, 1, none⟩ = some (.int .i64 a1_1) ∧ w'.cell? ⟨gb222, 2, none⟩ = some (.int .i64 a1_2) ∧ w'.cell? ⟨gb222, 3, none⟩ = some (.int .i64 a1_3) ∧ w'.cell? ⟨gb222, 4, none⟩ = some (.int .i64 a1_4) ∧ w'.cell? ⟨gb222, 5, none⟩ = some (.int .i64 a1_5)) (ds := []) #[false, false, false, false, false, false, false, false, false, false, false, false] (by kernel_rfl) rfl rfl ⟨zc0 BK245 0 rfl, zc0 BK222 0 rfl, zc0 BK222 1 rfl, zc0 BK222 2 rfl, zc0 BK222 3 rfl, zc0 BK222 4 rfl, zc0 BK222 5 rfl⟩ (fun hHeld => ?_); refine with_tabW laws_FnExactPopFront.tab7 laws_FnExactPopFront.bits7 (fun HT_ HW_ => ?_)
      generalize w50.drew = w51 at HO226 HO244 BK221 BK222 BK241 BK245 HB hHeld ⊢
      refine take_ (i := 0) (N := some 30) (v := ?_) (a' := ?_) #[true, false, false, false, false, false, false, false, false, false, false, false] rfl rfl (take_ofW HT_.out HW_.out (by kernel_rfl)) (fun _ _ _ h => h) (Or.inl ⟨by rfl, ?_⟩) hHeld ?_ ?_
      rotate_left
      ·rintro w' ⟨s0, s1, s2, s3, s4, s5, s6⟩
       go_simp
       with_reducible rfl
      rotate_left
      ·simp only [Act.put, zp1, zp2, zp3, i64_w, i32_w]
       rfl
      refine take_ (i := 1) (N := some 31) (v := ?_) (a' := ?_) #[true, true, false, false, false, false, false, false, false, false, false, false] rfl rfl (take_ofW HT_.out HW_.out (by kernel_rfl)) (fun _ _ _ h => h) (Or.inl ⟨by rfl, ?_⟩) hHeld ?_ ?_
      rotate_left
      ·rintro w' ⟨s0, s1, s2, s3, s4, s5, s6⟩
       go_simp
       with_reducible rfl
      rotate_left
      ·simp only [Act.put, zp1, zp2, zp3, i64_w, i32_w]
       rfl
      refine join_ (σ := Nat) 3 #[true, true, true, true, true, true, true, true, true, false, false, false] (fun s_ => [(32, .agg #[.int .i64 t246, .int .i64 t247, .int .i64 t248, .int .i64 t249, .int .i64 t250, .int .i64 t251]), (33, .tuple #[.int .u8 t252, .agg #[.int .i64 t253, .int .i64 t254, .int .i64 t255, .int .i64 t256, .int .i64 t257, .int .i64 t258], .bool t259]), (11, .pointer (some ⟨s_, 0, none⟩)), (29, .tuple #[.int .u8 t252, .agg #[.int .i64 t253, .int .i64 t254, .int .i64 t255, .int .i64 t256, .int .i64 t257, .int .i64 t258], .bool t259]), (34, .int .u8 t252), (35, .agg #[.int .i64 t253, .int .i64 t254, .int .i64 t255, .int .i64 t256, .int .i64 t257, .int .i64 t258]), (36, .bool t259)]) (fun s_ w' => (w'.cell? ⟨gb245, 0, none⟩ = some (.slice Ao45 t242.length co45) ∧ w'.cell? ⟨gb222, 0, none⟩ = some (.int .i64 a1_0) ∧ w'.cell? ⟨gb222, 1, none⟩ = some (.int .i64 a1_1) ∧ w'.cell? ⟨gb222, 2, none⟩ = some (.int .i64 a1_2) ∧ w'.cell? ⟨gb222, 3, none⟩ = some (.int .i64 a1_3) ∧ w'.cell? ⟨gb222, 4, none⟩ = some (.int .i64 a1_4) ∧ w'.cell? ⟨gb222, 5, none⟩ = some (.int .i64 a1_5)) ∧ (Kd.S (Kd.slice 5 (Kd.int .u8)) 65 w' w.heap.size (fun k_ => some k_ ≠ (.slice Ao45 t242.length co45 : Value).ownBlock) v225 t224) ∧ (Kd.S (Kd.slice 5 (Kd.int .u8)) 65 w' w.heap.size (fun k_ => some k_ ≠ (v225 : Value).ownBlock) (.slice Ao45 t242.length co45) t242) ∧ (w'.heap[gb221]? = some (.cells #[.slice A0_0 l0_0.length c0_0] 24 (0, 0))) ∧ (w'.heap[gb222]? = some (.cells #[.int .i64 a1_0, .int .i64 a1_1, .int .i64 a1_2, .int .i64 a1_3, .int .i64 a1_4, .int .i64 a1_5] 28 (0, 0))) ∧ (w'.heap[gb241]? = some (.cells #[.int .i64 t234, .int .i64 t235, .int .i64 t236, .int .i64 t237, .int .i64 t238, .int .i64 t239] 36 (0, 0))) ∧ (w'.heap[gb245]? = some (.cells #[.slice Ao45 t242.length co45] 32 (0, 0))) ∧ (w'.heap[s_]? = some (.cells #[.int .i64 0, .int .i64 0, .int .i64 0, .int .i64 0, .int .i64 0, .int .i64 0] 36 (0, 0))) ∧ (w.heap.size ≤ s_) ∧ (w.heap.size ≤ s_) ∧ (gb221 ≠ s_) ∧ (s_ ≠ gb221) ∧ (gb222 ≠ s_) ∧ (s_ ≠ gb222) ∧ (gb241 ≠ s_) ∧ (s_ ≠ gb241) ∧ (gb245 ≠ s_) ∧ (s_ ≠ gb245) ∧ (Below w.heap.size w w')) ?_ ?_
      rotate_left
      ·intro hCont
       refine two_ (i := 2) (j := 8) (Ni := some 32) (Nj := some 11) #[true, true, true, false, false, false, false, false, false, false, false, false] #[true, true, false, false, false, false, false, false, true, false, false, false] rfl rfl rfl rfl (two_of HT_.out (by kernel_rfl)) (by decide) (by decide) (fun K hK => ?_) (fun K hK => ?_)
       ·skip
        refine goes_ Try.func17 (by kernel_rfl) rfl #[.agg #[.int .i64 a1_0, .int .i64 a1_1, .int .i64 a1_2, .int .i64 a1_3, .int .i64 a1_4, .int .i64 a1_5]] (by rfl) rfl rfl (by (try simp only [List.map_toArray, List.map_cons, List.map_nil]); first | done | rfl | (simp only [List.length_drop, List.length_take]; rfl)) ?_
        with_reducible refine (laws_toRing.calls a1_0 a1_1 a1_2 a1_3 a1_4 a1_5 t246 t247 t248 t249 t250 t251 _ A14.out).mono ?_
        rintro e w52 ⟨rfl, hb⟩
        refine ⟨_, rfl, ?_⟩
        replace HO226 := zsb HO226 hb
        replace HO244 := zsb HO244 hb
        replace BK221 := zb0 BK221 hb
        replace BK222 := zb0 BK222 hb
        replace BK241 := zb0 BK241 hb
        replace BK245 := zb0 BK245 hb
        replace HB := zhs HB hb
        (try clear hb)
        (try clear hb2)
        (try clear hk)
        (try clear hi)
        refine hK.out _ _ ⟨zc0 BK245 0 rfl, zc0 BK222 0 rfl, zc0 BK222 1 rfl, zc0 BK222 2 rfl, zc0 BK222 3 rfl, zc0 BK222 4 rfl, zc0 BK222 5 rfl⟩ (fun hHeld => ?_)
        clear hK K
        refine norm_ (a' := ?_) ?_ ?_
        rotate_left
        ·show Act.put _ (some 32) _ = _
         simp only [Act.put, zp1, zp2, zp3, i64_w, i32_w]
         rfl
        refine two_ (i := 3) (j := 8) (Ni := some 33) (Nj := some 11) #[true, true, true, true, false, false, false, false, false, false, false, false] #[true, true, true, false, false, false, false, false, true, false, false, false] rfl rfl rfl rfl (two_of HT_.out (by kernel_rfl)) (by decide) (by decide) (fun K hK => ?_) (fun K hK => ?_)
        ·skip
         refine goes_ Try.func39 (by kernel_rfl) rfl #[.agg #[.slice Ao45 t242.length co45], .agg #[.int .i64 t246, .int .i64 t247, .int .i64 t248, .int .i64 t249, .int .i64 t250, .int .i64 t251]] (by rfl) rfl rfl (by (try simp only [List.map_toArray, List.map_cons, List.map_nil]); first | done | rfl | (simp only [List.length_drop, List.length_take]; rfl)) ?_
         with_reducible refine (impl_PopFront.calls k _ _ t242 t246 t247 t248 t249 t250 t251 t252 t253 t254 t255 t256 t257 t258 t259 _ ?side1 ?side2 A15.out).mono ?_
         (case side1 => repeat (first | exact (Kd.S_reads' HO244.out).2.2 | (with_reducible refine Kd.C_alloc ?_ _) | (with_reducible refine Kd.C_drewN ?_ _) | (with_reducible refine Kd.C_drew ?_)))
         (case side2 => exact (Kd.S_reads' HO244.out).2.1)
         rintro e w53 ⟨rfl, hb⟩
         refine ⟨_, rfl, ?_⟩
         replace HO226 := zsb HO226 hb
         replace HO244 := zsb HO244 hb
         replace BK221 := zb0 BK221 hb
         replace BK222 := zb0 BK222 hb
         replace BK241 := zb0 BK241 hb
         replace BK245 := zb0 BK245 hb
         replace HB := zhs HB hb
         (try clear hb)
         (try clear hb2)
         (try clear hk)
         (try clear hi)
         refine hK.out _ _ ⟨zc0 BK245 0 rfl, zc0 BK222 0 rfl, zc0 BK222 1 rfl, zc0 BK222 2 rfl, zc0 BK222 3 rfl, zc0 BK222 4 rfl, zc0 BK222 5 rfl⟩ (fun hHeld => ?_)
         clear hK K
         refine norm_ (a' := ?_) ?_ ?_
         rotate_left
         ·show Act.put _ (some 33) _ = _
          simp only [Act.put, zp1, zp2, zp3, i64_w, i32_w]
          rfl
         refine pure_ (i := 4) (N := some 29) (v := ?_) (a' := ?_) #[true, true, true, true, true, false, false, false, false, false, false, false] rfl rfl (any_of HT_.out (by kernel_rfl)) (fun _ _ _ h => h) (Or.inl ⟨by rfl, ?_⟩) ?_ ?_
         rotate_left
         ·intro w'
          go_simp
          with_reducible rfl
         rotate_left
         ·simp only [Act.put, zp1, zp2, zp3, i64_w, i32_w]
          rfl
         refine pure_ (i := 5) (N := some 34) (v := ?_) (a' := ?_) #[true, true, true, true, true, true, false, false, false, false, false, false] rfl rfl (any_of HT_.out (by kernel_rfl)) (fun _ _ _ h => h) (Or.inl ⟨by rfl, ?_⟩) ?_ ?_
         rotate_left
         ·intro w'
          go_simp
          with_reducible rfl
         rotate_left
         ·simp only [Act.put, zp1, zp2, zp3, i64_w, i32_w]
          rfl
         refine pure_ (i := 6) (N := some 35) (v := ?_) (a' := ?_) #[true, true, true, true, true, true, true, false, false, false, false, false] rfl rfl (any_of HT_.out (by kernel_rfl)) (fun _ _ _ h => h) (Or.inl ⟨by rfl, ?_⟩) ?_ ?_
         rotate_left
         ·intro w'
          go_simp
          with_reducible rfl
         rotate_left
         ·simp only [Act.put, zp1, zp2, zp3, i64_w, i32_w]
          rfl
         refine pure_ (i := 7) (N := some 36) (v := ?_) (a' := ?_) #[true, true, true, true, true, true, true, true, false, false, false, false] rfl rfl (any_of HT_.out (by kernel_rfl)) (fun _ _ _ h => h) (Or.inl ⟨by rfl, ?_⟩) ?_ ?_
         rotate_left
         ·intro w'
          go_simp
          with_reducible rfl
         rotate_left
         ·simp only [Act.put, zp1, zp2, zp3, i64_w, i32_w]
          rfl
         refine one_ (i := 8) (N := some 11) #[true, true, true, true, true, true, true, true, true, false, false, false] rfl rfl (one_of HT_.out (by kernel_rfl)) (by decide) (fun K hK => ?_)
         refine box_step ?hg (N := 11) ?hd (cs := #[.int .i64 0, .int .i64 0, .int .i64 0, .int .i64 0, .int .i64 0, .int .i64 0]) (t := 36) ?hr ?_; (case hd => rfl); (case hg => rfl); (case hr => first | (go_simp; done) | (go_simp; rfl))
         intro gb260 hg w54 hbox hb
         have BK260 := Aside0.mk (hbox)
         have GW260 := zge HB hg
         have GE260 := zge HB hg
         have NB221_260 := znl BK221 hg
         have NB260_221 := znr BK221 hg
         have NB222_260 := znl BK222 hg
         have NB260_222 := znr BK222 hg
         have NB241_260 := znl BK241 hg
         have NB260_241 := znr BK241 hg
         have NB245_260 := znl BK245 hg
         have NB260_245 := znr BK245 hg
         replace HO226 := zsb HO226 hb
         replace HO244 := zsb HO244 hb
         replace BK221 := zb0 BK221 hb
         replace BK222 := zb0 BK222 hb
         replace BK241 := zb0 BK241 hb
         replace BK245 := zb0 BK245 hb
         replace HB := zhs HB hb
         clear hb hbox hg
         refine hK.out _ _ ⟨zc0 BK245 0 rfl, zc0 BK222 0 rfl, zc0 BK222 1 rfl, zc0 BK222 2 rfl, zc0 BK222 3 rfl, zc0 BK222 4 rfl, zc0 BK222 5 rfl⟩ (fun hHeld => ?_)
         clear hK K
         refine norm_ (a' := ?_) ?_ ?_
         rotate_left
         ·show Act.put _ (some 11) _ = _
          simp only [Act.put, zp1, zp2, zp3, i64_w, i32_w]
          rfl
         exact norm_ (by simp only [putAll, Act.put, zp1, zp2, zp3]) (hCont (gb260) _ ⟨hHeld, (zs0 HO226), (zs0 HO244), (zk0 BK221), (zk0 BK222), (zk0 BK241), (zk0 BK245), (zk0 BK260), GW260.out, GE260.out, NB221_260.out, NB260_221.out, NB222_260.out, NB260_222.out, NB241_260.out, NB260_241.out, NB245_260.out, NB260_245.out, (zh0 HB)⟩)
        ·skip
         refine box_step ?hg (N := 11) ?hd (cs := #[.int .i64 0, .int .i64 0, .int .i64 0, .int .i64 0, .int .i64 0, .int .i64 0]) (t := 36) ?hr ?_; (case hd => rfl); (case hg => rfl); (case hr => first | (go_simp; done) | (go_simp; rfl))
         intro gb260 hg w53 hbox hb
         have BK260 := Aside0.mk (hbox)
         have GW260 := zge HB hg
         have GE260 := zge HB hg
         have NB221_260 := znl BK221 hg
         have NB260_221 := znr BK221 hg
         have NB222_260 := znl BK222 hg
         have NB260_222 := znr BK222 hg
         have NB241_260 := znl BK241 hg
         have NB260_241 := znr BK241 hg
         have NB245_260 := znl BK245 hg
         have NB260_245 := znr BK245 hg
         replace HO226 := zsb HO226 hb
         replace HO244 := zsb HO244 hb
         replace BK221 := zb0 BK221 hb
         replace BK222 := zb0 BK222 hb
         replace BK241 := zb0 BK241 hb
         replace BK245 := zb0 BK245 hb
         replace HB := zhs HB hb
         clear hb hbox hg
         refine hK.out _ _ ⟨zc0 BK245 0 rfl, zc0 BK222 0 rfl, zc0 BK222 1 rfl, zc0 BK222 2 rfl, zc0 BK222 3 rfl, zc0 BK222 4 rfl, zc0 BK222 5 rfl⟩ (fun hHeld => ?_)
         clear hK K
         refine norm_ (a' := ?_) ?_ ?_
         rotate_left
         ·show Act.put _ (some 11) _ = _
          simp only [Act.put, zp1, zp2, zp3, i64_w, i32_w]
          rfl
         refine one_ (i := 3) (N := some 33) #[true, true, true, true, false, false, false, false, true, false, false, false] rfl rfl (one_of HT_.out (by kernel_rfl)) (by decide) (fun K hK => ?_)
         refine goes_ Try.func39 (by kernel_rfl) rfl #[.agg #[.slice Ao45 t242.length co45], .agg #[.int .i64 t246, .int .i64 t247, .int .i64 t248, .int .i64 t249, .int .i64 t250, .int .i64 t251]] (by rfl) rfl rfl (by (try simp only [List.map_toArray, List.map_cons, List.map_nil]); first | done | rfl | (simp only [List.length_drop, List.length_take]; rfl)) ?_
         with_reducible refine (impl_PopFront.calls k _ _ t242 t246 t247 t248 t249 t250 t251 t252 t253 t254 t255 t256 t257 t258 t259 _ ?side1 ?side2 A15.out).mono ?_
         (case side1 => repeat (first | exact (Kd.S_reads' HO244.out).2.2 | (with_reducible refine Kd.C_alloc ?_ _) | (with_reducible refine Kd.C_drewN ?_ _) | (with_reducible refine Kd.C_drew ?_)))
         (case side2 => exact (Kd.S_reads' HO244.out).2.1)
         rintro e w54 ⟨rfl, hb⟩
         refine ⟨_, rfl, ?_⟩
         replace HO226 := zsb HO226 hb
         replace HO244 := zsb HO244 hb
         replace BK221 := zb0 BK221 hb
         replace BK222 := zb0 BK222 hb
         replace BK241 := zb0 BK241 hb
         replace BK245 := zb0 BK245 hb
         replace BK260 := zb0 BK260 hb
         replace HB := zhs HB hb
         (try clear hb)
         (try clear hb2)
         (try clear hk)
         (try clear hi)
         refine hK.out _ _ ⟨zc0 BK245 0 rfl, zc0 BK222 0 rfl, zc0 BK222 1 rfl, zc0 BK222 2 rfl, zc0 BK222 3 rfl, zc0 BK222 4 rfl, zc0 BK222 5 rfl⟩ (fun hHeld => ?_)
         clear hK K
         refine norm_ (a' := ?_) ?_ ?_
         rotate_left
         ·show Act.put _ (some 33) _ = _
          simp only [Act.put, zp1, zp2, zp3, i64_w, i32_w]
          rfl
         refine pure_ (i := 4) (N := some 29) (v := ?_) (a' := ?_) #[true, true, true, true, true, false, false, false, true, false, false, false] rfl rfl (any_of HT_.out (by kernel_rfl)) (fun _ _ _ h => h) (Or.inl ⟨by rfl, ?_⟩) ?_ ?_
         rotate_left
         ·intro w'
          go_simp
          with_reducible rfl
         rotate_left
         ·simp only [Act.put, zp1, zp2, zp3, i64_w, i32_w]
          rfl
         refine pure_ (i := 5) (N := some 34) (v := ?_) (a' := ?_) #[true, true, true, true, true, true, false, false, true, false, false, false] rfl rfl (any_of HT_.out (by kernel_rfl)) (fun _ _ _ h => h) (Or.inl ⟨by rfl, ?_⟩) ?_ ?_
         rotate_left
         ·intro w'
          go_simp
          with_reducible rfl
         rotate_left
         ·simp only [Act.put, zp1, zp2, zp3, i64_w, i32_w]
          rfl
         refine pure_ (i := 6) (N := some 35) (v := ?_) (a' := ?_) #[true, true, true, true, true, true, true, false, true, false, false, false] rfl rfl (any_of HT_.out (by kernel_rfl)) (fun _ _ _ h => h) (Or.inl ⟨by rfl, ?_⟩) ?_ ?_
         rotate_left
         ·intro w'
          go_simp
          with_reducible rfl
         rotate_left
         ·simp only [Act.put, zp1, zp2, zp3, i64_w, i32_w]
          rfl
         refine pure_ (i := 7) (N := some 36) (v := ?_) (a' := ?_) #[true, true, true, true, true, true, true, true, true, false, false, false] rfl rfl (any_of HT_.out (by kernel_rfl)) (fun _ _ _ h => h) (Or.inl ⟨by rfl, ?_⟩) ?_ ?_
         rotate_left
         ·intro w'
          go_simp
          with_reducible rfl
         rotate_left
         ·simp only [Act.put, zp1, zp2, zp3, i64_w, i32_w]
          rfl
         exact norm_ (by simp only [putAll, Act.put, zp1, zp2, zp3]) (hCont (gb260) _ ⟨hHeld, (zs0 HO226), (zs0 HO244), (zk0 BK221), (zk0 BK222), (zk0 BK241), (zk0 BK245), (zk0 BK260), GW260.out, GE260.out, NB221_260.out, NB260_221.out, NB222_260.out, NB260_222.out, NB241_260.out, NB260_241.out, NB245_260.out, NB260_245.out, (zh0 HB)⟩)
       ·skip
        refine box_step ?hg (N := 11) ?hd (cs := #[.int .i64 0, .int .i64 0, .int .i64 0, .int .i64 0, .int .i64 0, .int .i64 0]) (t := 36) ?hr ?_; (case hd => rfl); (case hg => rfl); (case hr => first | (go_simp; done) | (go_simp; rfl))
        intro gb260 hg w52 hbox hb
        have BK260 := Aside0.mk (hbox)
        have GW260 := zge HB hg
        have GE260 := zge HB hg
        have NB221_260 := znl BK221 hg
        have NB260_221 := znr BK221 hg
        have NB222_260 := znl BK222 hg
        have NB260_222 := znr BK222 hg
        have NB241_260 := znl BK241 hg
        have NB260_241 := znr BK241 hg
        have NB245_260 := znl BK245 hg
        have NB260_245 := znr BK245 hg
        replace HO226 := zsb HO226 hb
        replace HO244 := zsb HO244 hb
        replace BK221 := zb0 BK221 hb
        replace BK222 := zb0 BK222 hb
        replace BK241 := zb0 BK241 hb
        replace BK245 := zb0 BK245 hb
        replace HB := zhs HB hb
        clear hb hbox hg
        refine hK.out _ _ ⟨zc0 BK245 0 rfl, zc0 BK222 0 rfl, zc0 BK222 1 rfl, zc0 BK222 2 rfl, zc0 BK222 3 rfl, zc0 BK222 4 rfl, zc0 BK222 5 rfl⟩ (fun hHeld => ?_)
        clear hK K
        refine norm_ (a' := ?_) ?_ ?_
        rotate_left
        ·show Act.put _ (some 11) _ = _
         simp only [Act.put, zp1, zp2, zp3, i64_w, i32_w]
         rfl
        refine one_ (i := 2) (N := some 32) #[true, true, true, false, false, false, false, false, true, false, false, false] rfl rfl (one_of HT_.out (by kernel_rfl)) (by decide) (fun K hK => ?_)
        refine goes_ Try.func17 (by kernel_rfl) rfl #[.agg #[.int .i64 a1_0, .int .i64 a1_1, .int .i64 a1_2, .int .i64 a1_3, .int .i64 a1_4, .int .i64 a1_5]] (by rfl) rfl rfl (by (try simp only [List.map_toArray, List.map_cons, List.map_nil]); first | done | rfl | (simp only [List.length_drop, List.length_take]; rfl)) ?_
        with_reducible refine (laws_toRing.calls a1_0 a1_1 a1_2 a1_3 a1_4 a1_5 t246 t247 t248 t249 t250 t251 _ A14.out).mono ?_
        rintro e w53 ⟨rfl, hb⟩
        refine ⟨_, rfl, ?_⟩
        replace HO226 := zsb HO226 hb
        replace HO244 := zsb HO244 hb
        replace BK221 := zb0 BK221 hb
        replace BK222 := zb0 BK222 hb
        replace BK241 := zb0 BK241 hb
        replace BK245 := zb0 BK245 hb
        replace BK260 := zb0 BK260 hb
        replace HB := zhs HB hb
        (try clear hb)
        (try clear hb2)
        (try clear hk)
        (try clear hi)
        refine hK.out _ _ ⟨zc0 BK245 0 rfl, zc0 BK222 0 rfl, zc0 BK222 1 rfl, zc0 BK222 2 rfl, zc0 BK222 3 rfl, zc0 BK222 4 rfl, zc0 BK222 5 rfl⟩ (fun hHeld => ?_)
        clear hK K
        refine norm_ (a' := ?_) ?_ ?_
        rotate_left
        ·show Act.put _ (some 32) _ = _
         simp only [Act.put, zp1, zp2, zp3, i64_w, i32_w]
         rfl
        refine one_ (i := 3) (N := some 33) #[true, true, true, true, false, false, false, false, true, false, false, false] rfl rfl (one_of HT_.out (by kernel_rfl)) (by decide) (fun K hK => ?_)
        refine goes_ Try.func39 (by kernel_rfl) rfl #[.agg #[.slice Ao45 t242.length co45], .agg #[.int .i64 t246, .int .i64 t247, .int .i64 t248, .int .i64 t249, .int .i64 t250, .int .i64 t251]] (by rfl) rfl rfl (by (try simp only [List.map_toArray, List.map_cons, List.map_nil]); first | done | rfl | (simp only [List.length_drop, List.length_take]; rfl)) ?_
        with_reducible refine (impl_PopFront.calls k _ _ t242 t246 t247 t248 t249 t250 t251 t252 t253 t254 t255 t256 t257 t258 t259 _ ?side1 ?side2 A15.out).mono ?_
        (case side1 => repeat (first | exact (Kd.S_reads' HO244.out).2.2 | (with_reducible refine Kd.C_alloc ?_ _) | (with_reducible refine Kd.C_drewN ?_ _) | (with_reducible refine Kd.C_drew ?_)))
        (case side2 => exact (Kd.S_reads' HO244.out).2.1)
        rintro e w54 ⟨rfl, hb⟩
        refine ⟨_, rfl, ?_⟩
        replace HO226 := zsb HO226 hb
        replace HO244 := zsb HO244 hb
        replace BK221 := zb0 BK221 hb
        replace BK222 := zb0 BK222 hb
        replace BK241 := zb0 BK241 hb
        replace BK245 := zb0 BK245 hb
        replace BK260 := zb0 BK260 hb
        replace HB := zhs HB hb
        (try clear hb)
        (try clear hb2)
        (try clear hk)
        (try clear hi)
        refine hK.out _ _ ⟨zc0 BK245 0 rfl, zc0 BK222 0 rfl, zc0 BK222 1 rfl, zc0 BK222 2 rfl, zc0 BK222 3 rfl, zc0 BK222 4 rfl, zc0 BK222 5 rfl⟩ (fun hHeld => ?_)
        clear hK K
        refine norm_ (a' := ?_) ?_ ?_
        rotate_left
        ·show Act.put _ (some 33) _ = _
         simp only [Act.put, zp1, zp2, zp3, i64_w, i32_w]
         rfl
        refine pure_ (i := 4) (N := some 29) (v := ?_) (a' := ?_) #[true, true, true, true, true, false, false, false, true, false, false, false] rfl rfl (any_of HT_.out (by kernel_rfl)) (fun _ _ _ h => h) (Or.inl ⟨by rfl, ?_⟩) ?_ ?_
        rotate_left
        ·intro w'
         go_simp
         with_reducible rfl
        rotate_left
        ·simp only [Act.put, zp1, zp2, zp3, i64_w, i32_w]
         rfl
        refine pure_ (i := 5) (N := some 34) (v := ?_) (a' := ?_) #[true, true, true, true, true, true, false, false, true, false, false, false] rfl rfl (any_of HT_.out (by kernel_rfl)) (fun _ _ _ h => h) (Or.inl ⟨by rfl, ?_⟩) ?_ ?_
        rotate_left
        ·intro w'
         go_simp
         with_reducible rfl
        rotate_left
        ·simp only [Act.put, zp1, zp2, zp3, i64_w, i32_w]
         rfl
        refine pure_ (i := 6) (N := some 35) (v := ?_) (a' := ?_) #[true, true, true, true, true, true, true, false, true, false, false, false] rfl rfl (any_of HT_.out (by kernel_rfl)) (fun _ _ _ h => h) (Or.inl ⟨by rfl, ?_⟩) ?_ ?_
        rotate_left
        ·intro w'
         go_simp
         with_reducible rfl
        rotate_left
        ·simp only [Act.put, zp1, zp2, zp3, i64_w, i32_w]
         rfl
        refine pure_ (i := 7) (N := some 36) (v := ?_) (a' := ?_) #[true, true, true, true, true, true, true, true, true, false, false, false] rfl rfl (any_of HT_.out (by kernel_rfl)) (fun _ _ _ h => h) (Or.inl ⟨by rfl, ?_⟩) ?_ ?_
        rotate_left
        ·intro w'
         go_simp
         with_reducible rfl
        rotate_left
        ·simp only [Act.put, zp1, zp2, zp3, i64_w, i32_w]
         rfl
        exact norm_ (by simp only [putAll, Act.put, zp1, zp2, zp3]) (hCont (gb260) _ ⟨hHeld, (zs0 HO226), (zs0 HO244), (zk0 BK221), (zk0 BK222), (zk0 BK241), (zk0 BK245), (zk0 BK260), GW260.out, GE260.out, NB221_260.out, NB260_221.out, NB222_260.out, NB260_222.out, NB241_260.out, NB260_241.out, NB245_260.out, NB260_245.out, (zh0 HB)⟩)
      rintro gb260 w55 ⟨hS_, h0_, h1_, h2_, h3_, h4_, h5_, h6_, h7_, h8_, h9_, h10_, h11_, h12_, h13_, h14_, h15_, h16_, h17_⟩
      try dsimp only at hS_ h0_ h1_ h2_ h3_ h4_ h5_ h6_ h7_ h8_ h9_ h10_ h11_ h12_ h13_ h14_ h15_ h16_ h17_
      have BK260 := Aside0.mk h6_
      have GW260 := Aside0.mk h7_
      have GE260 := Aside0.mk h8_
      have NB221_260 := Aside0.mk h9_
      have NB260_221 := Aside0.mk h10_
      have NB222_260 := Aside0.mk h11_
      have NB260_222 := Aside0.mk h12_
      have NB241_260 := Aside0.mk h13_
      have NB260_241 := Aside0.mk h14_
      have NB245_260 := Aside0.mk h15_
      have NB260_245 := Aside0.mk h16_
      replace HO226 := Aside0.mk h0_
      replace HO244 := Aside0.mk h1_
      replace BK221 := Aside0.mk h2_
      replace BK222 := Aside0.mk h3_
      replace BK241 := Aside0.mk h4_
      replace BK245 := Aside0.mk h5_
      replace HB := Aside0.mk h17_
      clear h0_ h1_ h2_ h3_ h4_ h5_ h6_ h7_ h8_ h9_ h10_ h11_ h12_ h13_ h14_ h15_ h16_ h17_
      have hHeld := hS_
      refine norm_ (a' := ?_) ?_ ?_
      rotate_left
      ·simp only [putAll, Act.put, zp1, zp2, zp3]
       rfl
      refine pure_ (i := 9) (N := some 10) (v := ?_) (a' := ?_) #[true, true, true, true, true, true, true, true, true, true, false, false] rfl rfl (any_of HT_.out (by kernel_rfl)) (fun _ _ _ h => h) (Or.inl ⟨by rfl, ?_⟩) ?_ ?_
      rotate_left
      ·intro w'
       go_simp
       with_reducible rfl
      rotate_left
      ·simp only [Act.put, zp1, zp2, zp3, i64_w, i32_w]
       rfl
      refine one_ (i := 10) (N := none) #[true, true, true, true, true, true, true, true, true, true, true, false] rfl rfl (one_of HT_.out (by kernel_rfl)) (by decide) (fun K hK => ?_)
      have hs56 : w55.cell? ⟨gb260, 0, none⟩ = some (.int .i64 0) := zc0 BK260 0 rfl
      have hfs56 := blk_frozen BK260.out 0
      have hns56_0 := NB221_260.out
      have hns56_1 := NB222_260.out
      have hns56_2 := NB241_260.out
      have hns56_3 := NB245_260.out
      have hms56_0 := NB260_221.out
      have hms56_1 := NB260_222.out
      have hms56_2 := NB260_241.out
      have hms56_3 := NB260_245.out
      have hs57 : w55.cell? ⟨gb260, 1, none⟩ = some (.int .i64 0) := zc0 BK260 1 rfl
      have hfs57 := blk_frozen BK260.out 1
      have hns57_0 := NB221_260.out
      have hns57_1 := NB222_260.out
      have hns57_2 := NB241_260.out
      have hns57_3 := NB245_260.out
      have hms57_0 := NB260_221.out
      have hms57_1 := NB260_222.out
      have hms57_2 := NB260_241.out
      have hms57_3 := NB260_245.out
      have hs58 : w55.cell? ⟨gb260, 2, none⟩ = some (.int .i64 0) := zc0 BK260 2 rfl
      have hfs58 := blk_frozen BK260.out 2
      have hns58_0 := NB221_260.out
      have hns58_1 := NB222_260.out
      have hns58_2 := NB241_260.out
      have hns58_3 := NB245_260.out
      have hms58_0 := NB260_221.out
      have hms58_1 := NB260_222.out
      have hms58_2 := NB260_241.out
      have hms58_3 := NB260_245.out
      have hs59 : w55.cell? ⟨gb260, 3, none⟩ = some (.int .i64 0) := zc0 BK260 3 rfl
      have hfs59 := blk_frozen BK260.out 3
      have hns59_0 := NB221_260.out
      have hns59_1 := NB222_260.out
      have hns59_2 := NB241_260.out
      have hns59_3 := NB245_260.out
      have hms59_0 := NB260_221.out
      have hms59_1 := NB260_222.out
      have hms59_2 := NB260_241.out
      have hms59_3 := NB260_245.out
      have hs60 : w55.cell? ⟨gb260, 4, none⟩ = some (.int .i64 0) := zc0 BK260 4 rfl
      have hfs60 := blk_frozen BK260.out 4
      have hns60_0 := NB221_260.out
      have hns60_1 := NB222_260.out
      have hns60_2 := NB241_260.out
      have hns60_3 := NB245_260.out
      have hms60_0 := NB260_221.out
      have hms60_1 := NB260_222.out
      have hms60_2 := NB260_241.out
      have hms60_3 := NB260_245.out
      have hs61 : w55.cell? ⟨gb260, 5, none⟩ = some (.int .i64 0) := zc0 BK260 5 rfl
      have hfs61 := blk_frozen BK260.out 5
      have hns61_0 := NB221_260.out
      have hns61_1 := NB222_260.out
      have hns61_2 := NB241_260.out
      have hns61_3 := NB245_260.out
      have hms61_0 := NB260_221.out
      have hms61_1 := NB260_222.out
      have hms61_2 := NB260_241.out
      have hms61_3 := NB260_245.out
      refine skip_ (w1 := ?_) (by rfl) rfl ?_ ?_
      rotate_left
      ·go_simp
       rfl
      refine hK.out _ _ ⟨((cell_far (p := ⟨gb260, _, none⟩) NB245_260.out _).trans (((cell_far (p := ⟨gb260, _, none⟩) NB245_260.out _).trans (((cell_far (p := ⟨gb260, _, none⟩) NB245_260.out _).trans (((cell_far (p := ⟨gb260, _, none⟩) NB245_260.out _).trans (((cell_far (p := ⟨gb260, _, none⟩) NB245_260.out _).trans (((cell_far (p := ⟨gb260, _, none⟩) NB245_260.out _).trans (hHeld.1)))))))))))), ((cell_far (p := ⟨gb260, _, none⟩) NB222_260.out _).trans (((cell_far (p := ⟨gb260, _, none⟩) NB222_260.out _).trans (((cell_far (p := ⟨gb260, _, none⟩) NB222_260.out _).trans (((cell_far (p := ⟨gb260, _, none⟩) NB222_260.out _).trans (((cell_far (p := ⟨gb260, _, none⟩) NB222_260.out _).trans (((cell_far (p := ⟨gb260, _, none⟩) NB222_260.out _).trans (hHeld.2.1)))))))))))), ((cell_far (p := ⟨gb260, _, none⟩) NB222_260.out _).trans (((cell_far (p := ⟨gb260, _, none⟩) NB222_260.out _).trans (((cell_far (p := ⟨gb260, _, none⟩) NB222_260.out _).trans (((cell_far (p := ⟨gb260, _, none⟩) NB222_260.out _).trans (((cell_far (p := ⟨gb260, _, none⟩) NB222_260.out _).trans (((cell_far (p := ⟨gb260, _, none⟩) NB222_260.out _).trans (hHeld.2.2.1)))))))))))), ((cell_far (p := ⟨gb260, _, none⟩) NB222_260.out _).trans (((cell_far (p := ⟨gb260, _, none⟩) NB222_260.out _).trans (((cell_far (p := ⟨gb260, _, none⟩) NB222_260.out _).trans (((cell_far (p := ⟨gb260, _, none⟩) NB222_260.out _).trans (((cell_far (p := ⟨gb260, _, none⟩) NB222_260.out _).trans (((cell_far (p := ⟨gb260, _, none⟩) NB222_260.out _).trans (hHeld.2.2.2.1)))))))))))), ((cell_far (p := ⟨gb260, _, none⟩) NB222_260.out _).trans (((cell_far (p := ⟨gb260, _, none⟩) NB222_260.out _).trans (((cell_far (p := ⟨gb260, _, none⟩) NB222_260.out _).trans (((cell_far (p := ⟨gb260, _, none⟩) NB222_260.out _).trans (((cell_far (p := ⟨gb260, _, none⟩) NB222_260.out _).trans (((cell_far (p := ⟨gb260, _, none⟩) NB222_260.out _).trans (hHeld.2.2.2.2.1)))))))))))), ((cell_far (p := ⟨gb260, _, none⟩) NB222_260.out _).trans (((cell_far (p := ⟨gb260, _, none⟩) NB222_260.out _).trans (((cell_far (p := ⟨gb260, _, none⟩) NB222_260.out _).trans (((cell_far (p := ⟨gb260, _, none⟩) NB222_260.out _).trans (((cell_far (p := ⟨gb260, _, none⟩) NB222_260.out _).trans (((cell_far (p := ⟨gb260, _, none⟩) NB222_260.out _).trans (hHeld.2.2.2.2.2.1)))))))))))), ((cell_far (p := ⟨gb260, _, none⟩) NB222_260.out _).trans (((cell_far (p := ⟨gb260, _, none⟩) NB222_260.out _).trans (((cell_far (p := ⟨gb260, _, none⟩) NB222_260.out _).trans (((cell_far (p := ⟨gb260, _, none⟩) NB222_260.out _).trans (((cell_far (p := ⟨gb260, _, none⟩) NB222_260.out _).trans (((cell_far (p := ⟨gb260, _, none⟩) NB222_260.out _).trans (hHeld.2.2.2.2.2.2))))))))))))⟩ (fun hHeld => ?_)
      clear hK K
      refine pure_ (i := 11) (N := some 12) (v := ?_) (a' := ?_) #[true, true, true, true, true, true, true, true, true, true, true, true] rfl rfl (any_of HT_.out (by kernel_rfl)) (fun _ _ _ h => h) (Or.inl ⟨by rfl, ?_⟩) ?_ ?_
      rotate_left
      ·intro w'
       go_simp
       with_reducible rfl
      rotate_left
      ·simp only [Act.put, zp1, zp2, zp3, i64_w, i32_w]
       rfl
      refine done_ (done_of HT_.out (by kernel_rfl)) ?_
      have hnb62 := NB260_221.out
      have hnc62 := NB221_260.out
      have hnb63 := NB260_222.out
      have hnc63 := NB222_260.out
      have hnb64 := NB260_241.out
      have hnc64 := NB241_260.out
      have hnb65 := NB260_245.out
      have hnc65 := NB245_260.out
      have hcz66_0 : w55.cell? ⟨gb260, 0, none⟩ = some (.int .i64 0) := zc0 BK260 0 rfl
      have hcz66_1 : w55.cell? ⟨gb260, 1, none⟩ = some (.int .i64 0) := zc0 BK260 1 rfl
      have hcz66_2 : w55.cell? ⟨gb260, 2, none⟩ = some (.int .i64 0) := zc0 BK260 2 rfl
      have hcz66_3 : w55.cell? ⟨gb260, 3, none⟩ = some (.int .i64 0) := zc0 BK260 3 rfl
      have hcz66_4 : w55.cell? ⟨gb260, 4, none⟩ = some (.int .i64 0) := zc0 BK260 4 rfl
      have hcz66_5 : w55.cell? ⟨gb260, 5, none⟩ = some (.int .i64 0) := zc0 BK260 5 rfl
      have hfz66_0 := blk_frozen BK260.out 0
      have hfz66_1 := blk_frozen BK260.out 1
      have hfz66_2 := blk_frozen BK260.out 2
      have hfz66_3 := blk_frozen BK260.out 3
      have hfz66_4 := blk_frozen BK260.out 4
      have hfz66_5 := blk_frozen BK260.out 5
      have hnb67 := NB241_222.out
      have hnc67 := NB222_241.out
      have hcz68_0 : w55.cell? ⟨gb241, 0, none⟩ = some (.int .i64 t234) := zc0 BK241 0 rfl
      have hcz68_1 : w55.cell? ⟨gb241, 1, none⟩ = some (.int .i64 t235) := zc0 BK241 1 rfl
      have hcz68_2 : w55.cell? ⟨gb241, 2, none⟩ = some (.int .i64 t236) := zc0 BK241 2 rfl
      have hcz68_3 : w55.cell? ⟨gb241, 3, none⟩ = some (.int .i64 t237) := zc0 BK241 3 rfl
      have hcz68_4 : w55.cell? ⟨gb241, 4, none⟩ = some (.int .i64 t238) := zc0 BK241 4 rfl
      have hcz68_5 : w55.cell? ⟨gb241, 5, none⟩ = some (.int .i64 t239) := zc0 BK241 5 rfl
      have hfz68_0 := blk_frozen BK241.out 0
      have hfz68_1 := blk_frozen BK241.out 1
      have hfz68_2 := blk_frozen BK241.out 2
      have hfz68_3 := blk_frozen BK241.out 3
      have hfz68_4 := blk_frozen BK241.out 4
      have hfz68_5 := blk_frozen BK241.out 5
      try go_wp2_with (first | (go_at_call 28; (with_reducible refine (laws_eqRing.calls t253 t254 t255 t256 t257 t258 t234 t235 t236 t237 t238 t239 true _ A17.out).mono ?_); rintro e w69 ⟨rfl, hb⟩; replace HO226 := Aside0.mk (Kd.S_below (by (with_reducible repeat (first | apply Kd.S_alloc | apply Kd.S_drewN | apply Kd.S_drew)); exact (Kd.S_mono (Kd.S_far (p := ⟨gb260, 5, none⟩) (Kd.S_far (p := ⟨gb260, 4, none⟩) (Kd.S_far (p := ⟨gb260, 3, none⟩) (Kd.S_far (p := ⟨gb260, 2, none⟩) (Kd.S_far (p := ⟨gb260, 1, none⟩) (Kd.S_far (p := ⟨gb260, 0, none⟩) (Kd.S_types HO226.out BK260.out (by decide)) (fun _ hk => hk.2) (.int .i64 t253)) (fun _ hk => hk.2) (.int .i64 t254)) (fun _ hk => hk.2) (.int .i64 t255)) (fun _ hk => hk.2) (.int .i64 t256)) (fun _ hk => hk.2) (.int .i64 t257)) (fun _ hk => hk.2) (.int .i64 t258)) (fun _ h_ => h_.1))) hb); replace HO244 := Aside0.mk (Kd.S_below (by (with_reducible repeat (first | apply Kd.S_alloc | apply Kd.S_drewN | apply Kd.S_drew)); exact (Kd.S_mono (Kd.S_far (p := ⟨gb260, 5, none⟩) (Kd.S_far (p := ⟨gb260, 4, none⟩) (Kd.S_far (p := ⟨gb260, 3, none⟩) (Kd.S_far (p := ⟨gb260, 2, none⟩) (Kd.S_far (p := ⟨gb260, 1, none⟩) (Kd.S_far (p := ⟨gb260, 0, none⟩) (Kd.S_types HO244.out BK260.out (by decide)) (fun _ hk => hk.2) (.int .i64 t253)) (fun _ hk => hk.2) (.int .i64 t254)) (fun _ hk => hk.2) (.int .i64 t255)) (fun _ hk => hk.2) (.int .i64 t256)) (fun _ hk => hk.2) (.int .i64 t257)) (fun _ hk => hk.2) (.int .i64 t258)) (fun _ h_ => h_.1))) hb); replace BK221 := Aside0.mk (blk_below (g := gb221) (o := .cells #[.slice A0_0 l0_0.length c0_0] 24 (0, 0)) (by (with_reducible repeat (first | refine blk_drewN ?_ _ | refine blk_drew ?_ | refine blk_alloc ?_ _)); refine blk_far ?_ NB221_260.out _; (with_reducible repeat (first | refine blk_drewN ?_ _ | refine blk_drew ?_ | refine blk_alloc ?_ _)); refine blk_far ?_ NB221_260.out _; (with_reducible repeat (first | refine blk_drewN ?_ _ | refine blk_drew ?_ | refine blk_alloc ?_ _)); refine blk_far ?_ NB221_260.out _; (with_reducible repeat (first | refine blk_drewN ?_ _ | refine blk_drew ?_ | refine blk_alloc ?_ _)); refine blk_far ?_ NB221_260.out _; (with_reducible repeat (first | refine blk_drewN ?_ _ | refine blk_drew ?_ | refine blk_alloc ?_ _)); refine blk_far ?_ NB221_260.out _; (with_reducible repeat (first | refine blk_drewN ?_ _ | refine blk_drew ?_ | refine blk_alloc ?_ _)); refine blk_far ?_ NB221_260.out _; (with_reducible repeat (first | refine blk_drewN ?_ _ | refine blk_drew ?_ | refine blk_alloc ?_ _)); exact BK221.out) hb); replace BK222 := Aside0.mk (blk_below (g := gb222) (o := .cells #[.int .i64 a1_0, .int .i64 a1_1, .int .i64 a1_2, .int .i64 a1_3, .int .i64 a1_4, .int .i64 a1_5] 28 (0, 0)) (by (with_reducible repeat (first | refine blk_drewN ?_ _ | refine blk_drew ?_ | refine blk_alloc ?_ _)); refine blk_far ?_ NB222_260.out _; (with_reducible repeat (first | refine blk_drewN ?_ _ | refine blk_drew ?_ | refine blk_alloc ?_ _)); refine blk_far ?_ NB222_260.out _; (with_reducible repeat (first | refine blk_drewN ?_ _ | refine blk_drew ?_ | refine blk_alloc ?_ _)); refine blk_far ?_ NB222_260.out _; (with_reducible repeat (first | refine blk_drewN ?_ _ | refine blk_drew ?_ | refine blk_alloc ?_ _)); refine blk_far ?_ NB222_260.out _; (with_reducible repeat (first | refine blk_drewN ?_ _ | refine blk_drew ?_ | refine blk_alloc ?_ _)); refine blk_far ?_ NB222_260.out _; (with_reducible repeat (first | refine blk_drewN ?_ _ | refine blk_drew ?_ | refine blk_alloc ?_ _)); refine blk_far ?_ NB222_260.out _; (with_reducible repeat (first | refine blk_drewN ?_ _ | refine blk_drew ?_ | refine blk_alloc ?_ _)); exact BK222.out) hb); replace BK241 := Aside0.mk (blk_below (g := gb241) (o := .cells #[.int .i64 t234, .int .i64 t235, .int .i64 t236, .int .i64 t237, .int .i64 t238, .int .i64 t239] 36 (0, 0)) (by (with_reducible repeat (first | refine blk_drewN ?_ _ | refine blk_drew ?_ | refine blk_alloc ?_ _)); refine blk_far ?_ NB241_260.out _; (with_reducible repeat (first | refine blk_drewN ?_ _ | refine blk_drew ?_ | refine blk_alloc ?_ _)); refine blk_far ?_ NB241_260.out _; (with_reducible repeat (first | refine blk_drewN ?_ _ | refine blk_drew ?_ | refine blk_alloc ?_ _)); refine blk_far ?_ NB241_260.out _; (with_reducible repeat (first | refine blk_drewN ?_ _ | refine blk_drew ?_ | refine blk_alloc ?_ _)); refine blk_far ?_ NB241_260.out _; (with_reducible repeat (first | refine blk_drewN ?_ _ | refine blk_drew ?_ | refine blk_alloc ?_ _)); refine blk_far ?_ NB241_260.out _; (with_reducible repeat (first | refine blk_drewN ?_ _ | refine blk_drew ?_ | refine blk_alloc ?_ _)); refine blk_far ?_ NB241_260.out _; (with_reducible repeat (first | refine blk_drewN ?_ _ | refine blk_drew ?_ | refine blk_alloc ?_ _)); exact BK241.out) hb); replace BK245 := Aside0.mk (blk_below (g := gb245) (o := .cells #[.slice Ao45 t242.length co45] 32 (0, 0)) (by (with_reducible repeat (first | refine blk_drewN ?_ _ | refine blk_drew ?_ | refine blk_alloc ?_ _)); refine blk_far ?_ NB245_260.out _; (with_reducible repeat (first | refine blk_drewN ?_ _ | refine blk_drew ?_ | refine blk_alloc ?_ _)); refine blk_far ?_ NB245_260.out _; (with_reducible repeat (first | refine blk_drewN ?_ _ | refine blk_drew ?_ | refine blk_alloc ?_ _)); refine blk_far ?_ NB245_260.out _; (with_reducible repeat (first | refine blk_drewN ?_ _ | refine blk_drew ?_ | refine blk_alloc ?_ _)); refine blk_far ?_ NB245_260.out _; (with_reducible repeat (first | refine blk_drewN ?_ _ | refine blk_drew ?_ | refine blk_alloc ?_ _)); refine blk_far ?_ NB245_260.out _; (with_reducible repeat (first | refine blk_drewN ?_ _ | refine blk_drew ?_ | refine blk_alloc ?_ _)); refine blk_far ?_ NB245_260.out _; (with_reducible repeat (first | refine blk_drewN ?_ _ | refine blk_drew ?_ | refine blk_alloc ?_ _)); exact BK245.out) hb); replace BK260 := Aside0.mk (blk_below (g := gb260) (o := .cells #[.int .i64 t253, .int .i64 t254, .int .i64 t255, .int .i64 t256, .int .i64 t257, .int .i64 t258] 36 (0, 0)) (by (with_reducible repeat (first | refine blk_drewN ?_ _ | refine blk_drew ?_ | refine blk_alloc ?_ _)); refine blk_put (cs := #[.int .i64 t253, .int .i64 t254, .int .i64 t255, .int .i64 t256, .int .i64 t257, .int .i64 0]) ?_ 5 _ rfl; (with_reducible repeat (first | refine blk_drewN ?_ _ | refine blk_drew ?_ | refine blk_alloc ?_ _)); refine blk_put (cs := #[.int .i64 t253, .int .i64 t254, .int .i64 t255, .int .i64 t256, .int .i64 0, .int .i64 0]) ?_ 4 _ rfl; (with_reducible repeat (first | refine blk_drewN ?_ _ | refine blk_drew ?_ | refine blk_alloc ?_ _)); refine blk_put (cs := #[.int .i64 t253, .int .i64 t254, .int .i64 t255, .int .i64 0, .int .i64 0, .int .i64 0]) ?_ 3 _ rfl; (with_reducible repeat (first | refine blk_drewN ?_ _ | refine blk_drew ?_ | refine blk_alloc ?_ _)); refine blk_put (cs := #[.int .i64 t253, .int .i64 t254, .int .i64 0, .int .i64 0, .int .i64 0, .int .i64 0]) ?_ 2 _ rfl; (with_reducible repeat (first | refine blk_drewN ?_ _ | refine blk_drew ?_ | refine blk_alloc ?_ _)); refine blk_put (cs := #[.int .i64 t253, .int .i64 0, .int .i64 0, .int .i64 0, .int .i64 0, .int .i64 0]) ?_ 1 _ rfl; (with_reducible repeat (first | refine blk_drewN ?_ _ | refine blk_drew ?_ | refine blk_alloc ?_ _)); refine blk_put (cs := #[.int .i64 0, .int .i64 0, .int .i64 0, .int .i64 0, .int .i64 0, .int .i64 0]) ?_ 0 _ rfl; (with_reducible repeat (first | refine blk_drewN ?_ _ | refine blk_drew ?_ | refine blk_alloc ?_ _)); exact BK260.out) hb); replace HB := Aside0.mk (below_step (by repeat (first | (with_reducible first | exact HB.out | apply below_alloc | apply pw_below_drewN | apply below_drew1 | refine below_set ?_ GE221.out | refine below_set ?_ GE222.out | refine below_set ?_ GE241.out | refine below_set ?_ GE245.out | refine below_set ?_ GE260.out) | exact HB.out)) hb); (try clear hb); (try clear hb2); (try clear hk); (try clear hi)))
      replace HO226 := Aside0.mk (Kd.S_drew HO226.out)
      replace HO244 := Aside0.mk (Kd.S_drew HO244.out)
      replace BK221 := Aside0.mk (blk_drew BK221.out)
      replace BK222 := Aside0.mk (blk_drew BK222.out)
      replace BK241 := Aside0.mk (blk_drew BK241.out)
      replace BK245 := Aside0.mk (blk_drew BK245.out)
      replace BK260 := Aside0.mk (blk_drew BK260.out)
      replace HB := Aside0.mk (below_drew1 HB.out)
      refine start_ (n := 5) (S := fun w' => w'.cell? ⟨gb245, 0, none⟩ = some (.slice Ao45 t242.length co45) ∧ w'.cell? ⟨gb221, 0, none⟩ = some (.slice A0_0 l0_0.length c0_0)) (ds := []) #[false, false, false, false, false] (by kernel_rfl) rfl rfl ⟨zc0 BK245 0 rfl, zc0 BK221 0 rfl⟩ (fun hHeld => ?_)
      generalize w69.drew = w70 at HO226 HO244 BK221 BK222 BK241 BK245 BK260 HB hHeld ⊢
      refine take_ (i := 0) (N := some 51) (v := ?_) (a' := ?_) #[true, false, false, false, false] rfl rfl (by kernel_rfl) (fun _ _ _ h => h) (Or.inl ⟨by rfl, ?_⟩) hHeld ?_ ?_
      rotate_left
      ·rintro w' ⟨s0, s1⟩
       go_simp
       with_reducible rfl
      rotate_left
      ·simp only [Act.put, zp1, zp2, zp3, i64_w, i32_w]
       rfl
      refine take_ (i := 1) (N := some 52) (v := ?_) (a' := ?_) #[true, true, false, false, false] rfl rfl (by kernel_rfl) (fun _ _ _ h => h) (Or.inl ⟨by rfl, ?_⟩) hHeld ?_ ?_
      rotate_left
      ·rintro w' ⟨s0, s1⟩
       go_simp
       with_reducible rfl
      rotate_left
      ·simp only [Act.put, zp1, zp2, zp3, i64_w, i32_w]
       rfl
      refine one_ (i := 2) (N := some 53) #[true, true, true, false, false] rfl rfl (by kernel_rfl) (by decide) (fun K hK => ?_)
      refine goes_ Try.func16 (by kernel_rfl) rfl #[.agg #[.slice A0_0 l0_0.length c0_0]] (by rfl) rfl rfl (by (try simp only [List.map_toArray, List.map_cons, List.map_nil]); first | done | rfl | (simp only [List.length_drop, List.length_take]; rfl)) ?_
      with_reducible refine (laws_toMemory.calls k _ _ l0_0 t262 _ ?side1 ?side2 A20.out).mono ?_
      (case side1 => repeat (first | exact (Kd.C_below HR0_0.out HB.out) | (with_reducible refine Kd.C_alloc ?_ _) | (with_reducible refine Kd.C_drewN ?_ _) | (with_reducible refine Kd.C_drew ?_)))
      (case side2 => exact HC0_0.out)
      rintro e w71 ⟨v263, rfl, ho0, hb⟩
      refine ⟨_, rfl, ?_⟩
      have HO264 := Aside0.mk (Kd.S_lower (Kd.S_new' (Kd.S_new' ho0 (Kd.S_lt (zs0 HO226))) (Kd.S_lt (zs0 HO244))) (below_size (zh0 HB)))
      replace HO226 := Aside0.mk (Kd.S_elder' (zs0 HO226) (Kd.S_base ho0) hb)
      replace HO244 := Aside0.mk (Kd.S_elder' (zs0 HO244) (Kd.S_base ho0) hb)
      replace BK221 := zb0 BK221 hb
      replace BK222 := zb0 BK222 hb
      replace BK241 := zb0 BK241 hb
      replace BK245 := zb0 BK245 hb
      replace BK260 := zb0 BK260 hb
      replace HB := zhs HB hb
      (try clear hb)
      (try clear hb2)
      (try clear hk)
      (try clear hi)
      (try clear ho0)
      obtain ⟨Ao72, co72, eo72⟩ := Kd.S_slice HO264.out
      (first | subst eo72 | (injection eo72 with f1_ f2_ f3_; have f4_ := f1_.symm; have f5_ := f3_.symm; clear f1_ f2_ f3_; subst f4_; subst f5_))
      refine hK.out _ _ ⟨zc0 BK245 0 rfl, zc0 BK221 0 rfl⟩ (fun hHeld => ?_)
      clear hK K
      refine norm_ (a' := ?_) ?_ ?_
      rotate_left
      ·show Act.put _ (some 53) _ = _
       simp only [Act.put, zp1, zp2, zp3, i64_w, i32_w]
       rfl
      refine one_ (i := 3) (N := some 54) #[true, true, true, true, false] rfl rfl (by kernel_rfl) (by decide) (fun K hK => ?_)
      refine goes_ Try.func19 (by kernel_rfl) rfl #[.agg #[.slice Ao45 t242.length co45], .agg #[.slice Ao72 t262.length co72]] (by rfl) rfl rfl (by (try simp only [List.map_toArray, List.map_cons, List.map_nil]); first | done | rfl | (simp only [List.length_drop, List.length_take]; rfl)) ?_
      with_reducible refine (laws_eqMemory.calls k _ _ t242 _ _ t262 true _ ?side1 ?side2 ?side3 ?side4 A21.out).mono ?_
      (case side1 => repeat (first | exact (Kd.S_reads' HO244.out).2.2 | (with_reducible refine Kd.C_alloc ?_ _) | (with_reducible refine Kd.C_drewN ?_ _) | (with_reducible refine Kd.C_drew ?_)))
      (case side2 => exact (Kd.S_reads' HO244.out).2.1)
      (case side3 => repeat (first | exact (Kd.S_reads' HO264.out).2.2 | (with_reducible refine Kd.C_alloc ?_ _) | (with_reducible refine Kd.C_drewN ?_ _) | (with_reducible refine Kd.C_drew ?_)))
      (case side4 => exact (Kd.S_reads' HO264.out).2.1)
      rintro e w73 ⟨rfl, hb⟩
      refine ⟨_, rfl, ?_⟩
      replace HO226 := zsb HO226 hb
      replace HO244 := zsb HO244 hb
      replace HO264 := zsb HO264 hb
      replace BK221 := zb0 BK221 hb
      replace BK222 := zb0 BK222 hb
      replace BK241 := zb0 BK241 hb
      replace BK245 := zb0 BK245 hb
      replace BK260 := zb0 BK260 hb
      replace HB := zhs HB hb
      (try clear hb)
      (try clear hb2)
      (try clear hk)
      (try clear hi)
      refine hK.out _ _ ⟨zc0 BK245 0 rfl, zc0 BK221 0 rfl⟩ (fun hHeld => ?_)
      clear hK K
      refine norm_ (a' := ?_) ?_ ?_
      rotate_left
      ·show Act.put _ (some 54) _ = _
       simp only [Act.put, zp1, zp2, zp3, i64_w, i32_w]
       rfl
      refine pure_ (i := 4) (N := some 55) (v := ?_) (a' := ?_) #[true, true, true, true, true] rfl rfl (by kernel_rfl) (fun _ _ _ h => h) (Or.inl ⟨by rfl, ?_⟩) ?_ ?_
      rotate_left
      ·intro w'
       go_simp
       with_reducible rfl
      rotate_left
      ·simp only [Act.put, zp1, zp2, zp3, i64_w, i32_w]
       rfl
      refine done_ (by kernel_rfl) ?_
      try go_wp2
      go_ret
      exact ⟨by first | rfl | (simp [errW_none, errW_some] <;> rfl) | (simp [*, errW_none, errW_some] <;> rfl), by repeat (first | (with_reducible first | exact HB.out | apply below_alloc | apply pw_below_drewN | apply below_drew1 | refine below_set ?_ GE221.out | refine below_set ?_ GE222.out | refine below_set ?_ GE241.out | refine below_set ?_ GE245.out | refine below_set ?_ GE260.out) | exact HB.out)⟩
     ·replace c22 := Bool.eq_false_iff.mpr c22
      subst c22
      have H1 : (none) = some r := by rw [if_neg (show ¬ (false = true) by decide)] at H; exact H
      clear H
      have H := H1
      clear H1
      exact absurd H (by simp)
   ·replace c18 := Bool.eq_false_iff.mpr c18
    subst c18
    have H1 : (none) = some r := by rw [if_neg (show ¬ (false = true) by decide)] at H; exact H
    clear H
    have H := H1
    clear H1
    exact absurd H (by simp)
  ·rw [if_neg c16] at H
   exact absurd H (by simp)

end Go.Proofs.Ytdojnaghcfhadaa.PFnExactPopFront
