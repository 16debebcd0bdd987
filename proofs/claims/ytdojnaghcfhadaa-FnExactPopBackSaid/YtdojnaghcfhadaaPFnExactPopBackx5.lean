/- What is proved here: each Go function that is named below answers, and leaves memory, as the theorem of its name says; no condition beyond those that each theorem states. Laid by this session's own program (wip/driver.py) over the kit's print. -/
import Derived.Test.YtdojnaghcfhadaaPFnExactPopBackx0
import Derived.Test.YtdojnaghcfhadaaPFnExactPopBackx1
import Derived.Test.YtdojnaghcfhadaaPFnExactPopBackx2
import Derived.Test.YtdojnaghcfhadaaPFnExactPopBackx4
namespace Go.Proofs.Ytdojnaghcfhadaa.PFnExactPopBack
open Go.RowKit Go.Proofs.YtdojnaghcfhadaaW.PrintWords Go.Proofs.YtdojnaghcfhadaaW.PrintLast Go.Proofs.YtdojnaghcfhadaaW.PrintMore
attribute [local go_sem] max2_int min2_int max_two min_two max_three min_three max_four min_four   -- for this text's walks alone
set_option linter.unusedVariables false
set_option linter.unusedSimpArgs false

open Go.Proofs.Ytdojnaghcfhadaa.Cp
/-! ### laws_FnExactPopBack: function 8 -/
def laws_FnExactPopBack.f (k : Nat) (l0_0 : List (List Int)) (a1_0 : Int) (a1_1 : Int) (a1_2 : Int) (a1_3 : Int) (a1_4 : Int) (a1_5 : Int) : Option (Bool) := (laws_szMemory.f k l0_0 1048576).bind fun t215 => (if t215 < 0 then (some true) else ((laws_toMemory.f k l0_0).bind fun t216 => ((laws_toRing.f a1_0 a1_1 a1_2 a1_3 a1_4 a1_5).bind fun bt219 => ((spec_PopBack.f k t216 bt219.1 bt219.2.1 bt219.2.2.1 bt219.2.2.2.1 bt219.2.2.2.2.1 bt219.2.2.2.2.2).bind fun bt225 => ((laws_toMemory.f k l0_0).bind fun t234 => ((laws_toRing.f a1_0 a1_1 a1_2 a1_3 a1_4 a1_5).bind fun bt238 => ((impl_PopBack.f k t234 bt238.1 bt238.2.1 bt238.2.2.1 bt238.2.2.2.1 bt238.2.2.2.2.1 bt238.2.2.2.2.2).bind fun bt244 => (if bt244.1 = bt225.1 then ((laws_eqRing.f bt244.2.1 bt244.2.2.1 bt244.2.2.2.1 bt244.2.2.2.2.1 bt244.2.2.2.2.2.1 bt244.2.2.2.2.2.2.1 bt225.2.1 bt225.2.2.1 bt225.2.2.2.1 bt225.2.2.2.2.1 bt225.2.2.2.2.2.1 bt225.2.2.2.2.2.2.1).bind fun t253 => (if t253 = true then (if (bt244.2.2.2.2.2.2.2 != bt225.2.2.2.2.2.2.2) = true then (none) else ((laws_toMemory.f k l0_0).bind fun t254 => ((laws_eqMemory.f k t234 t254).bind fun t257 => (if t257 = true then (some true) else (none))))) else (none))) else (none)))))))))
theorem laws_FnExactPopBack.mono : ∀ a0 a1 a2 a3 a4 a5 a6 k, LeO (laws_FnExactPopBack.f k a0 a1 a2 a3 a4 a5 a6) (laws_FnExactPopBack.f (k + 1) a0 a1 a2 a3 a4 a5 a6) := by
 intro a0 a1 a2 a3 a4 a5 a6 k
 unfold laws_FnExactPopBack.f
 repeat' first
   | (with_reducible exact impl_PopBack.mono _ _ _ _ _ _ _ _)
   | (with_reducible exact laws_eqMemory.mono _ _ _)
   | (with_reducible exact laws_szMemory.mono _ _ _)
   | (with_reducible exact laws_toMemory.mono _ _)
   | (with_reducible exact spec_PopBack.mono _ _ _ _ _ _ _ _)
   | (with_reducible exact LeO.refl _)
   | (with_reducible exact LeO.none _)
   | (with_reducible refine LeO.ite ?_ ?_)
   | (with_reducible refine LeO.bind ?_ (fun _ => ?_))
   | exact impl_PopBack.mono _ _ _ _ _ _ _ _
   | exact laws_eqMemory.mono _ _ _
   | exact laws_szMemory.mono _ _ _
   | exact laws_toMemory.mono _ _
   | exact spec_PopBack.mono _ _ _ _ _ _ _ _
   | exact LeO.none _
   | refine LeO.ite ?_ ?_
   | refine LeO.bind ?_ (fun _ => ?_)
def laws_FnExactPopBack.T5 : Bool × List (List Nat × List Nat) := (true, [([], []), ([0], [0]), ([], []), ([2, 1], [2]), ([1, 3, 3], [1, 3]), ([4], [4]), ([5], [5]), ([5], [5]), ([5], [5]), ([], []), ([6, 4, 0, 1, 2, 3, 4, 5, 6, 9], [6]), ([9, 7, 10, 0, 1, 2, 3, 4, 5, 6, 7, 9, 10], [7, 9]), ([8, 11, 0, 1, 2, 3, 4, 5, 6, 7, 8, 9, 10, 11], [8])])
def laws_FnExactPopBack.B5 : List Nat := [0, 1, 0, 7, 15, 31, 63, 63, 63, 0, 639, 1791, 4095]
theorem laws_FnExactPopBack.tab5 : rtab .any (opsOf Try.f8 5) = laws_FnExactPopBack.T5 := by kernel_rfl
theorem laws_FnExactPopBack.bits5 : waitsOk laws_FnExactPopBack.T5.2 laws_FnExactPopBack.B5 = true := by kernel_rfl
def laws_FnExactPopBack.T7 : Bool × List (List Nat × List Nat) := (true, [([], []), ([], []), ([1], [1]), ([0, 2, 2], [0, 2]), ([3], [3]), ([4], [4]), ([4], [4]), ([4], [4]), ([], []), ([5, 3, 0, 1, 2, 3, 4, 5, 8], [5]), ([8, 6, 9, 0, 1, 2, 3, 4, 5, 6, 8, 9], [6, 8]), ([7, 10, 0, 1, 2, 3, 4, 5, 6, 7, 8, 9, 10], [7])])
def laws_FnExactPopBack.B7 : List Nat := [0, 0, 2, 7, 15, 31, 31, 31, 0, 319, 895, 2047]
theorem laws_FnExactPopBack.tab7 : rtab .any (opsOf Try.f8 7) = laws_FnExactPopBack.T7 := by kernel_rfl
theorem laws_FnExactPopBack.bits7 : waitsOk laws_FnExactPopBack.T7.2 laws_FnExactPopBack.B7 = true := by kernel_rfl
set_option maxHeartbeats 8000000 in
set_option maxRecDepth 100000 in
theorem laws_FnExactPopBack.calls (k : Nat) (A0_0 : Option Addr) (c0_0 : Nat) (l0_0 : List (List Int)) (a1_0 : Int) (a1_1 : Int) (a1_2 : Int) (a1_3 : Int) (a1_4 : Int) (a1_5 : Int) (r : Bool) (w : World) (hr0_0 : Kd.C (Kd.slice 5 (Kd.int .u8)) w A0_0 l0_0.length l0_0) (hc0_0 : l0_0.length ≤ c0_0) (h : laws_FnExactPopBack.f k l0_0 a1_0 a1_1 a1_2 a1_3 a1_4 a1_5 = some r) :
  Calls Try.prog 8 #[.agg #[.slice A0_0 l0_0.length c0_0], .agg #[.int .i64 a1_0, .int .i64 a1_1, .int .i64 a1_2, .int .i64 a1_3, .int .i64 a1_4, .int .i64 a1_5]] w fun e w' => e = .returned (.bool r) ∧ Below w.heap.size w w' := by
 have hu24 := Try.underlying24
 have hu28 := Try.underlying28
 have hu36 := Try.underlying36
 have hu32 := Try.underlying32
 have HR0_0 := Aside0.mk hr0_0
 have HC0_0 := Aside0.mk hc0_0
 clear hr0_0 hc0_0
 have HB := Aside0.mk (Below.refl w.heap.size w)
 have H : ((laws_szMemory.f k l0_0 1048576).bind fun t215 => (if t215 < 0 then (some true) else ((laws_toMemory.f k l0_0).bind fun t216 => ((laws_toRing.f a1_0 a1_1 a1_2 a1_3 a1_4 a1_5).bind fun bt219 => ((spec_PopBack.f k t216 bt219.1 bt219.2.1 bt219.2.2.1 bt219.2.2.2.1 bt219.2.2.2.2.1 bt219.2.2.2.2.2).bind fun bt225 => ((laws_toMemory.f k l0_0).bind fun t234 => ((laws_toRing.f a1_0 a1_1 a1_2 a1_3 a1_4 a1_5).bind fun bt238 => ((impl_PopBack.f k t234 bt238.1 bt238.2.1 bt238.2.2.1 bt238.2.2.2.1 bt238.2.2.2.2.1 bt238.2.2.2.2.2).bind fun bt244 => (if bt244.1 = bt225.1 then ((laws_eqRing.f bt244.2.1 bt244.2.2.1 bt244.2.2.2.1 bt244.2.2.2.2.1 bt244.2.2.2.2.2.1 bt244.2.2.2.2.2.2.1 bt225.2.1 bt225.2.2.1 bt225.2.2.2.1 bt225.2.2.2.2.1 bt225.2.2.2.2.2.1 bt225.2.2.2.2.2.2.1).bind fun t253 => (if t253 = true then (if (bt244.2.2.2.2.2.2.2 != bt225.2.2.2.2.2.2.2) = true then (none) else ((laws_toMemory.f k l0_0).bind fun t254 => ((laws_eqMemory.f k t234 t254).bind fun t257 => (if t257 = true then (some true) else (none))))) else (none))) else (none)))))))))) = some r := h
 clear h
 replace H := Option.bind_eq_some_iff.mp H
 obtain ⟨t215, A30, H⟩ := H
 replace H : (if t215 < 0 then (some true) else ((laws_toMemory.f k l0_0).bind fun t216 => ((laws_toRing.f a1_0 a1_1 a1_2 a1_3 a1_4 a1_5).bind fun bt219 => ((spec_PopBack.f k t216 bt219.1 bt219.2.1 bt219.2.2.1 bt219.2.2.2.1 bt219.2.2.2.2.1 bt219.2.2.2.2.2).bind fun bt225 => ((laws_toMemory.f k l0_0).bind fun t234 => ((laws_toRing.f a1_0 a1_1 a1_2 a1_3 a1_4 a1_5).bind fun bt238 => ((impl_PopBack.f k t234 bt238.1 bt238.2.1 bt238.2.2.1 bt238.2.2.2.1 bt238.2.2.2.2.1 bt238.2.2.2.2.2).bind fun bt244 => (if bt244.1 = bt225.1 then ((laws_eqRing.f bt244.2.1 bt244.2.2.1 bt244.2.2.2.1 bt244.2.2.2.2.1 bt244.2.2.2.2.2.1 bt244.2.2.2.2.2.2.1 bt225.2.1 bt225.2.2.1 bt225.2.2.2.1 bt225.2.2.2.2.1 bt225.2.2.2.2.2.1 bt225.2.2.2.2.2.2.1).bind fun t253 => (if t253 = true then (if (bt244.2.2.2.2.2.2.2 != bt225.2.2.2.2.2.2.2) = true then (none) else ((laws_toMemory.f k l0_0).bind fun t254 => ((laws_eqMemory.f k t234 t254).bind fun t257 => (if t257 = true then (some true) else (none))))) else (none))) else (none))))))))) = some r := H
 have A3 := Aside0.mk A30
 clear A30
 by_cases c4 : t215 < 0
 ·rw [if_pos c4] at H
  have c4b0 : decide (t215 < 0) = true := decide_eq_true c4
  clear c4
  obtain rfl := Option.some.inj H
  go_enter Try.func8, Try.ntmps8
  go_wp2_with (first | ((with_reducible refine gate_dst (N := 2) rfl ?_); refine box_event ?hg (N := 2) ?hd (cs := #[.slice A0_0 l0_0.length c0_0]) (t := 24) ?hr ?_; (case hd => rfl); (case hg => rfl); (case hr => first | (go_simp; done) | (go_simp; rfl)); intro gb213 hg w5 hbox hb; have BK213 := Aside0.mk (hbox); have GW213 := zge HB hg; have GE213 := zge HB hg; replace HB := zhs HB hb; clear hb hbox hg) | ((with_reducible refine gate_dst (N := 3) rfl ?_); refine box_event ?hg (N := 3) ?hd (cs := #[.int .i64 a1_0, .int .i64 a1_1, .int .i64 a1_2, .int .i64 a1_3, .int .i64 a1_4, .int .i64 a1_5]) (t := 28) ?hr ?_; (case hd => rfl); (case hg => rfl); (case hr => first | (go_simp; done) | (go_simp; rfl)); intro gb214 hg w6 hbox hb; have BK214 := Aside0.mk (hbox); have GW214 := zge HB hg; have GE214 := zge HB hg; have NB213_214 := znl BK213 hg; have NB214_213 := znr BK213 hg; replace BK213 := zb0 BK213 hb; replace HB := zhs HB hb; clear hb hbox hg; have hnb7 := NB213_214.out; have hnc7 := NB214_213.out; have hcz8_0 : w6.cell? ⟨gb213, 0, none⟩ = some (.slice A0_0 l0_0.length c0_0) := zc0 BK213 0 rfl; have hfz8_0 := blk_frozen BK213.out 0) | ((with_reducible refine gate_callee (f := 14) rfl ?_); refine goesL_ (some 15) rfl rfl Try.func14 (by kernel_rfl) rfl #[.agg #[.slice A0_0 l0_0.length c0_0], .int .i64 1048576] rfl (by (try simp only [List.map_toArray, List.map_cons, List.map_nil]); first | done | rfl | (simp only [List.length_drop, List.length_take]; rfl)) ?_; (with_reducible refine (laws_szMemory.calls k _ _ l0_0 1048576 t215 _ ?side1 ?side2 A3.out).mono ?_); (case side1 => repeat (first | exact (Kd.C_below HR0_0.out HB.out) | (with_reducible refine Kd.C_alloc ?_ _) | (with_reducible refine Kd.C_drewN ?_ _) | (with_reducible refine Kd.C_drew ?_))); (case side2 => exact HC0_0.out); rintro e w9 ⟨rfl, hb⟩; refine ⟨_, rfl, ?_⟩; replace BK213 := zb0 BK213 hb; replace BK214 := zb0 BK214 hb; replace HB := zhs HB hb; (try clear hb); (try clear hb2); (try clear hk); (try clear hi)))
  go_ret
  exact ⟨by first | rfl | (simp [errW_none, errW_some] <;> rfl) | (simp [*, errW_none, errW_some] <;> rfl), by repeat (first | (with_reducible first | exact HB.out | apply below_alloc | apply pw_below_drewN | apply below_drew1 | refine below_set ?_ GE213.out | refine below_set ?_ GE214.out) | exact HB.out)⟩
 ·rw [if_neg c4] at H
  have c4b0 : decide (t215 < 0) = false := decide_eq_false c4
  clear c4
  replace H := Option.bind_eq_some_iff.mp H
  obtain ⟨t216, A100, H⟩ := H
  replace H : ((laws_toRing.f a1_0 a1_1 a1_2 a1_3 a1_4 a1_5).bind fun bt219 => ((spec_PopBack.f k t216 bt219.1 bt219.2.1 bt219.2.2.1 bt219.2.2.2.1 bt219.2.2.2.2.1 bt219.2.2.2.2.2).bind fun bt225 => ((laws_toMemory.f k l0_0).bind fun t234 => ((laws_toRing.f a1_0 a1_1 a1_2 a1_3 a1_4 a1_5).bind fun bt238 => ((impl_PopBack.f k t234 bt238.1 bt238.2.1 bt238.2.2.1 bt238.2.2.2.1 bt238.2.2.2.2.1 bt238.2.2.2.2.2).bind fun bt244 => (if bt244.1 = bt225.1 then ((laws_eqRing.f bt244.2.1 bt244.2.2.1 bt244.2.2.2.1 bt244.2.2.2.2.1 bt244.2.2.2.2.2.1 bt244.2.2.2.2.2.2.1 bt225.2.1 bt225.2.2.1 bt225.2.2.2.1 bt225.2.2.2.2.1 bt225.2.2.2.2.2.1 bt225.2.2.2.2.2.2.1).bind fun t253 => (if t253 = true then (if (bt244.2.2.2.2.2.2.2 != bt225.2.2.2.2.2.2.2) = true then (none) else ((laws_toMemory.f k l0_0).bind fun t254 => ((laws_eqMemory.f k t234 t254).bind fun t257 => (if t257 = true then (some true) else (none))))) else (none))) else (none))))))) = some r := H
  have A10 := Aside0.mk A100
  clear A100
  replace H := Option.bind_eq_some_iff.mp H
  obtain ⟨⟨t219, t220, t221, t222, t223, t224⟩, A110, H⟩ := H
  replace H : ((spec_PopBack.f k t216 t219 t220 t221 t222 t223 t224).bind fun bt225 => ((laws_toMemory.f k l0_0).bind fun t234 => ((laws_toRing.f a1_0 a1_1 a1_2 a1_3 a1_4 a1_5).bind fun bt238 => ((impl_PopBack.f k t234 bt238.1 bt238.2.1 bt238.2.2.1 bt238.2.2.2.1 bt238.2.2.2.2.1 bt238.2.2.2.2.2).bind fun bt244 => (if bt244.1 = bt225.1 then ((laws_eqRing.f bt244.2.1 bt244.2.2.1 bt244.2.2.2.1 bt244.2.2.2.2.1 bt244.2.2.2.2.2.1 bt244.2.2.2.2.2.2.1 bt225.2.1 bt225.2.2.1 bt225.2.2.2.1 bt225.2.2.2.2.1 bt225.2.2.2.2.2.1 bt225.2.2.2.2.2.2.1).bind fun t253 => (if t253 = true then (if (bt244.2.2.2.2.2.2.2 != bt225.2.2.2.2.2.2.2) = true then (none) else ((laws_toMemory.f k l0_0).bind fun t254 => ((laws_eqMemory.f k t234 t254).bind fun t257 => (if t257 = true then (some true) else (none))))) else (none))) else (none)))))) = some r := H
  have A11 := Aside0.mk A110
  clear A110
  replace H := Option.bind_eq_some_iff.mp H
  obtain ⟨⟨t225, t226, t227, t228, t229, t230, t231, t232⟩, A120, H⟩ := H
  replace H : ((laws_toMemory.f k l0_0).bind fun t234 => ((laws_toRing.f a1_0 a1_1 a1_2 a1_3 a1_4 a1_5).bind fun bt238 => ((impl_PopBack.f k t234 bt238.1 bt238.2.1 bt238.2.2.1 bt238.2.2.2.1 bt238.2.2.2.2.1 bt238.2.2.2.2.2).bind fun bt244 => (if bt244.1 = t225 then ((laws_eqRing.f bt244.2.1 bt244.2.2.1 bt244.2.2.2.1 bt244.2.2.2.2.1 bt244.2.2.2.2.2.1 bt244.2.2.2.2.2.2.1 t226 t227 t228 t229 t230 t231).bind fun t253 => (if t253 = true then (if (bt244.2.2.2.2.2.2.2 != t232) = true then (none) else ((laws_toMemory.f k l0_0).bind fun t254 => ((laws_eqMemory.f k t234 t254).bind fun t257 => (if t257 = true then (some true) else (none))))) else (none))) else (none))))) = some r := H
  have A12 := Aside0.mk A120
  clear A120
  replace H := Option.bind_eq_some_iff.mp H
  obtain ⟨t234, A130, H⟩ := H
  replace H : ((laws_toRing.f a1_0 a1_1 a1_2 a1_3 a1_4 a1_5).bind fun bt238 => ((impl_PopBack.f k t234 bt238.1 bt238.2.1 bt238.2.2.1 bt238.2.2.2.1 bt238.2.2.2.2.1 bt238.2.2.2.2.2).bind fun bt244 => (if bt244.1 = t225 then ((laws_eqRing.f bt244.2.1 bt244.2.2.1 bt244.2.2.2.1 bt244.2.2.2.2.1 bt244.2.2.2.2.2.1 bt244.2.2.2.2.2.2.1 t226 t227 t228 t229 t230 t231).bind fun t253 => (if t253 = true then (if (bt244.2.2.2.2.2.2.2 != t232) = true then (none) else ((laws_toMemory.f k l0_0).bind fun t254 => ((laws_eqMemory.f k t234 t254).bind fun t257 => (if t257 = true then (some true) else (none))))) else (none))) else (none)))) = some r := H
  have A13 := Aside0.mk A130
  clear A130
  replace H := Option.bind_eq_some_iff.mp H
  obtain ⟨⟨t238, t239, t240, t241, t242, t243⟩, A140, H⟩ := H
  replace H : ((impl_PopBack.f k t234 t238 t239 t240 t241 t242 t243).bind fun bt244 => (if bt244.1 = t225 then ((laws_eqRing.f bt244.2.1 bt244.2.2.1 bt244.2.2.2.1 bt244.2.2.2.2.1 bt244.2.2.2.2.2.1 bt244.2.2.2.2.2.2.1 t226 t227 t228 t229 t230 t231).bind fun t253 => (if t253 = true then (if (bt244.2.2.2.2.2.2.2 != t232) = true then (none) else ((laws_toMemory.f k l0_0).bind fun t254 => ((laws_eqMemory.f k t234 t254).bind fun t257 => (if t257 = true then (some true) else (none))))) else (none))) else (none))) = some r := H
  have A14 := Aside0.mk A140
  clear A140
  replace H := Option.bind_eq_some_iff.mp H
  obtain ⟨⟨t244, t245, t246, t247, t248, t249, t250, t251⟩, A150, H⟩ := H
  replace H : (if t244 = t225 then ((laws_eqRing.f t245 t246 t247 t248 t249 t250 t226 t227 t228 t229 t230 t231).bind fun t253 => (if t253 = true then (if (t251 != t232) = true then (none) else ((laws_toMemory.f k l0_0).bind fun t254 => ((laws_eqMemory.f k t234 t254).bind fun t257 => (if t257 = true then (some true) else (none))))) else (none))) else (none)) = some r := H
  have A15 := Aside0.mk A150
  clear A150
  by_cases c16 : t244 = t225
  ·rw [if_pos c16] at H
   have c16b0 : (t244 == t225) = true := beq_iff_eq.mpr c16
   have c16b1 : (t244 != t225) = false := bne_eq_false_iff_eq.mpr c16
   clear c16
   replace H := Option.bind_eq_some_iff.mp H
   obtain ⟨t253, A170, H⟩ := H
   replace H : (if t253 = true then (if (t251 != t232) = true then (none) else ((laws_toMemory.f k l0_0).bind fun t254 => ((laws_eqMemory.f k t234 t254).bind fun t257 => (if t257 = true then (some true) else (none))))) else (none)) = some r := H
   have A17 := Aside0.mk A170
   clear A170
   by_cases c18 : t253 = true
   ·subst c18
    have H1 : (if (t251 != t232) = true then (none) else ((laws_toMemory.f k l0_0).bind fun t254 => ((laws_eqMemory.f k t234 t254).bind fun t257 => (if t257 = true then (some true) else (none))))) = some r := by rw [if_pos rfl] at H; exact H
    clear H
    have H := H1
    clear H1
    by_cases c19 : (t251 != t232) = true
    ·rw [if_pos c19] at H
     exact absurd H (by simp)
    ·rw [if_neg c19] at H
     have c19b0 : (t251 != t232) = false := by simpa using c19
     (try (have c19b1 : decide (t251 = t232) = true := by simpa using c19))
     (try (have c19b2 : (t251 == t232) = true := by simpa using c19))
     clear c19
     replace H := Option.bind_eq_some_iff.mp H
     obtain ⟨t254, A200, H⟩ := H
     replace H : ((laws_eqMemory.f k t234 t254).bind fun t257 => (if t257 = true then (some true) else (none))) = some r := H
     have A20 := Aside0.mk A200
     clear A200
     replace H := Option.bind_eq_some_iff.mp H
     obtain ⟨t257, A210, H⟩ := H
     replace H : (if t257 = true then (some true) else (none)) = some r := H
     have A21 := Aside0.mk A210
     clear A210
     by_cases c22 : t257 = true
     ·subst c22
      have H1 : (some true) = some r := by rw [if_pos rfl] at H; exact H
      clear H
      have H := H1
      clear H1
      obtain rfl := Option.some.inj H
      go_enter Try.func8, Try.ntmps8
      try go_wp2_with (first | ((with_reducible refine gate_dst (N := 2) rfl ?_); refine box_event ?hg (N := 2) ?hd (cs := #[.slice A0_0 l0_0.length c0_0]) (t := 24) ?hr ?_; (case hd => rfl); (case hg => rfl); (case hr => first | (go_simp; done) | (go_simp; rfl)); intro gb213 hg w23 hbox hb; have BK213 := Aside0.mk (hbox); have GW213 := zge HB hg; have GE213 := zge HB hg; replace HB := zhs HB hb; clear hb hbox hg) | ((with_reducible refine gate_dst (N := 3) rfl ?_); refine box_event ?hg (N := 3) ?hd (cs := #[.int .i64 a1_0, .int .i64 a1_1, .int .i64 a1_2, .int .i64 a1_3, .int .i64 a1_4, .int .i64 a1_5]) (t := 28) ?hr ?_; (case hd => rfl); (case hg => rfl); (case hr => first | (go_simp; done) | (go_simp; rfl)); intro gb214 hg w24 hbox hb; have BK214 := Aside0.mk (hbox); have GW214 := zge HB hg; have GE214 := zge HB hg; have NB213_214 := znl BK213 hg; have NB214_213 := znr BK213 hg; replace BK213 := zb0 BK213 hb; replace HB := zhs HB hb; clear hb hbox hg; have hnb25 := NB213_214.out; have hnc25 := NB214_213.out; have hcz26_0 : w24.cell? ⟨gb213, 0, none⟩ = some (.slice A0_0 l0_0.length c0_0) := zc0 BK213 0 rfl; have hfz26_0 := blk_frozen BK213.out 0) | ((with_reducible refine gate_callee (f := 14) rfl ?_); refine goesL_ (some 15) rfl rfl Try.func14 (by kernel_rfl) rfl #[.agg #[.slice A0_0 l0_0.length c0_0], .int .i64 1048576] rfl (by (try simp only [List.map_toArray, List.map_cons, List.map_nil]); first | done | rfl | (simp only [List.length_drop, List.length_take]; rfl)) ?_; (with_reducible refine (laws_szMemory.calls k _ _ l0_0 1048576 t215 _ ?side1 ?side2 A3.out).mono ?_); (case side1 => repeat (first | exact (Kd.C_below HR0_0.out HB.out) | (with_reducible refine Kd.C_alloc ?_ _) | (with_reducible refine Kd.C_drewN ?_ _) | (with_reducible refine Kd.C_drew ?_))); (case side2 => exact HC0_0.out); rintro e w27 ⟨rfl, hb⟩; refine ⟨_, rfl, ?_⟩; replace BK213 := zb0 BK213 hb; replace BK214 := zb0 BK214 hb; replace HB := zhs HB hb; (try clear hb); (try clear hb2); (try clear hk); (try clear hi)))
      replace BK213 := Aside0.mk (blk_drew BK213.out)
      replace BK214 := Aside0.mk (blk_drew BK214.out)
      replace HB := Aside0.mk (below_drew1 HB.out)
      refine start_ (n := 13) (S := fun w' => w'.cell? ⟨gb213, 0, none⟩ = some (.slice A0_0 l0_0.length c0_0) ∧ w'.cell? ⟨gb214, 0, none⟩ = some (.int .i64 a1_0) ∧ w'.cell? ⟨gb214, 1, none⟩ = some (.int .i64 a1_1) ∧ w'.cell? ⟨gb214, 2, none⟩ = some (.int .i64 a1_2) ∧ w'.cell? ⟨gb214, 3, none⟩ = some (.int .i64 a1_3) ∧ w'.cell? ⟨gb214, 4, none⟩ = some (.int .i64 a1_4) ∧ w'.cell? ⟨gb214, 5, none⟩ = some (.int .i64 a1_5)) (ds := []) #[false, false, false, false, false, false, false, false, false, false, false, false, false] (by kernel_rfl) rfl rfl ⟨zc0 BK213 0 rfl, zc0 BK214 0 rfl, zc0 BK214 1 rfl, zc0 BK214 2 rfl, zc0 BK214 3 rfl, zc0 BK214 4 rfl, zc0 BK214 5 rfl⟩ (fun hHeld => ?_); refine with_tabW laws_FnExactPopBack.tab5 laws_FnExactPopBack.bits5 (fun HT_ HW_ => ?_)
      generalize w27.drew = w28 at BK213 BK214 HB hHeld ⊢
      refine take_ (i := 0) (N := some 19) (v := ?_) (a' := ?_) #[true, false, false, false, false, false, false, false, false, false, false, false, false] rfl rfl (take_ofW HT_.out HW_.out (by kernel_rfl)) (fun _ _ _ h => h) (Or.inl ⟨by rfl, ?_⟩) hHeld ?_ ?_
      rotate_left
      ·rintro w' ⟨s0, s1, s2, s3, s4, s5, s6⟩
       go_simp
       with_reducible rfl
      rotate_left
      ·simp only [Act.put, zp1, zp2, zp3, i64_w, i32_w]
       rfl
      refine take_ (i := 2) (N := some 21) (v := ?_) (a' := ?_) #[true, false, true, false, false, false, false, false, false, false, false, false, false] rfl rfl (take_ofW HT_.out HW_.out (by kernel_rfl)) (fun _ _ _ h => h) (Or.inl ⟨by rfl, ?_⟩) hHeld ?_ ?_
      rotate_left
      ·rintro w' ⟨s0, s1, s2, s3, s4, s5, s6⟩
       go_simp
       with_reducible rfl
      rotate_left
      ·simp only [Act.put, zp1, zp2, zp3, i64_w, i32_w]
       rfl
      refine join_ (σ := Value × Nat) 3 #[true, true, true, true, true, true, true, true, true, true, false, false, false] (fun s_ => [(20, .agg #[s_.1]), (22, .agg #[.int .i64 t219, .int .i64 t220, .int .i64 t221, .int .i64 t222, .int .i64 t223, .int .i64 t224]), (23, .tuple #[.int .u8 t225, .agg #[.int .i64 t226, .int .i64 t227, .int .i64 t228, .int .i64 t229, .int .i64 t230, .int .i64 t231], .bool t232]), (7, .pointer (some ⟨s_.2, 0, none⟩)), (18, .tuple #[.int .u8 t225, .agg #[.int .i64 t226, .int .i64 t227, .int .i64 t228, .int .i64 t229, .int .i64 t230, .int .i64 t231], .bool t232]), (24, .int .u8 t225), (25, .agg #[.int .i64 t226, .int .i64 t227, .int .i64 t228, .int .i64 t229, .int .i64 t230, .int .i64 t231]), (26, .bool t232)]) (fun s_ w' => (w'.cell? ⟨gb213, 0, none⟩ = some (.slice A0_0 l0_0.length c0_0) ∧ w'.cell? ⟨gb214, 0, none⟩ = some (.int .i64 a1_0) ∧ w'.cell? ⟨gb214, 1, none⟩ = some (.int .i64 a1_1) ∧ w'.cell? ⟨gb214, 2, none⟩ = some (.int .i64 a1_2) ∧ w'.cell? ⟨gb214, 3, none⟩ = some (.int .i64 a1_3) ∧ w'.cell? ⟨gb214, 4, none⟩ = some (.int .i64 a1_4) ∧ w'.cell? ⟨gb214, 5, none⟩ = some (.int .i64 a1_5)) ∧ (Kd.S (Kd.slice 5 (Kd.int .u8)) 65 w' w.heap.size (fun _ => True) s_.1 t216) ∧ (w'.heap[gb213]? = some (.cells #[.slice A0_0 l0_0.length c0_0] 24 (0, 0))) ∧ (w'.heap[gb214]? = some (.cells #[.int .i64 a1_0, .int .i64 a1_1, .int .i64 a1_2, .int .i64 a1_3, .int .i64 a1_4, .int .i64 a1_5] 28 (0, 0))) ∧ (w'.heap[s_.2]? = some (.cells #[.int .i64 0, .int .i64 0, .int .i64 0, .int .i64 0, .int .i64 0, .int .i64 0] 36 (0, 0))) ∧ (w.heap.size ≤ s_.2) ∧ (w.heap.size ≤ s_.2) ∧ (gb213 ≠ s_.2) ∧ (s_.2 ≠ gb213) ∧ (gb214 ≠ s_.2) ∧ (s_.2 ≠ gb214) ∧ (Below w.heap.size w w')) ?_ ?_
      rotate_left
      ·intro hCont
       refine two_ (i := 1) (j := 9) (Ni := some 20) (Nj := some 7) #[true, true, true, false, false, false, false, false, false, false, false, false, false] #[true, false, true, false, false, false, false, false, false, true, false, false, false] rfl rfl rfl rfl (two_of HT_.out (by kernel_rfl)) (by decide) (by decide) (fun K hK => ?_) (fun K hK => ?_)
       ·skip
        refine goes_ Try.func16 (by kernel_rfl) rfl #[.agg #[.slice A0_0 l0_0.length c0_0]] (by rfl) rfl rfl (by (try simp only [List.map_toArray, List.map_cons, List.map_nil]); first | done | rfl | (simp only [List.length_drop, List.length_take]; rfl)) ?_
        with_reducible refine (laws_toMemory.calls k _ _ l0_0 t216 _ ?side1 ?side2 A10.out).mono ?_
        (case side1 => repeat (first | exact (Kd.C_below HR0_0.out HB.out) | (with_reducible refine Kd.C_alloc ?_ _) | (with_reducible refine Kd.C_drewN ?_ _) | (with_reducible refine Kd.C_drew ?_)))
        (case side2 => exact HC0_0.out)
        rintro e w29 ⟨v217, rfl, ho0, hb⟩
        refine ⟨_, rfl, ?_⟩
        have HO218 := Aside0.mk (Kd.S_lower ho0 (below_size (zh0 HB)))
        replace BK213 := zb0 BK213 hb
        replace BK214 := zb0 BK214 hb
        replace HB := zhs HB hb
        (try clear hb)
        (try clear hb2)
        (try clear hk)
        (try clear hi)
        (try clear ho0)
        refine hK.out _ _ ⟨zc0 BK213 0 rfl, zc0 BK214 0 rfl, zc0 BK214 1 rfl, zc0 BK214 2 rfl, zc0 BK214 3 rfl, zc0 BK214 4 rfl, zc0 BK214 5 rfl⟩ (fun hHeld => ?_)
        clear hK K
        refine norm_ (a' := ?_) ?_ ?_
        rotate_left
        ·show Act.put _ (some 20) _ = _
         simp only [Act.put, zp1, zp2, zp3, i64_w, i32_w]
         rfl
        refine two_ (i := 3) (j := 9) (Ni := some 22) (Nj := some 7) #[true, true, true, true, false, false, false, false, false, false, false, false, false] #[true, true, true, false, false, false, false, false, false, true, false, false, false] rfl rfl rfl rfl (two_of HT_.out (by kernel_rfl)) (by decide) (by decide) (fun K hK => ?_) (fun K hK => ?_)
        ·skip
         refine goes_ Try.func17 (by kernel_rfl) rfl #[.agg #[.int .i64 a1_0, .int .i64 a1_1, .int .i64 a1_2, .int .i64 a1_3, .int .i64 a1_4, .int .i64 a1_5]] (by rfl) rfl rfl (by (try simp only [List.map_toArray, List.map_cons, List.map_nil]); first | done | rfl | (simp only [List.length_drop, List.length_take]; rfl)) ?_
         with_reducible refine (laws_toRing.calls a1_0 a1_1 a1_2 a1_3 a1_4 a1_5 t219 t220 t221 t222 t223 t224 _ A11.out).mono ?_
         rintro e w30 ⟨rfl, hb⟩
         refine ⟨_, rfl, ?_⟩
         replace HO218 := zsb HO218 hb
         replace BK213 := zb0 BK213 hb
         replace BK214 := zb0 BK214 hb
         replace HB := zhs HB hb
         (try clear hb)
         (try clear hb2)
         (try clear hk)
         (try clear hi)
         obtain ⟨Ao31, co31, eo31⟩ := Kd.S_slice HO218.out
         (first | subst eo31 | (injection eo31 with f1_ f2_ f3_; have f4_ := f1_.symm; have f5_ := f3_.symm; clear f1_ f2_ f3_; subst f4_; subst f5_))
         refine hK.out _ _ ⟨zc0 BK213 0 rfl, zc0 BK214 0 rfl, zc0 BK214 1 rfl, zc0 BK214 2 rfl, zc0 BK214 3 rfl, zc0 BK214 4 rfl, zc0 BK214 5 rfl⟩ (fun hHeld => ?_)
         clear hK K
         refine norm_ (a' := ?_) ?_ ?_
         rotate_left
         ·show Act.put _ (some 22) _ = _
          simp only [Act.put, zp1, zp2, zp3, i64_w, i32_w]
          rfl
         refine two_ (i := 4) (j := 9) (Ni := some 23) (Nj := some 7) #[true, true, true, true, true, false, false, false, false, false, false, false, false] #[true, true, true, true, false, false, false, false, false, true, false, false, false] rfl rfl rfl rfl (two_of HT_.out (by kernel_rfl)) (by decide) (by decide) (fun K hK => ?_) (fun K hK => ?_)
         ·skip
          refine goes_ Try.func36 (by kernel_rfl) rfl #[.agg #[.slice Ao31 t216.length co31], .agg #[.int .i64 t219, .int .i64 t220, .int .i64 t221, .int .i64 t222, .int .i64 t223, .int .i64 t224]] (by rfl) rfl rfl (by (try simp only [List.map_toArray, List.map_cons, List.map_nil]); first | done | rfl | (simp only [List.length_drop, List.length_take]; rfl)) ?_
          with_reducible refine (spec_PopBack.calls k _ _ t216 t219 t220 t221 t222 t223 t224 t225 t226 t227 t228 t229 t230 t231 t232 _ ?side1 ?side2 A12.out).mono ?_
          (case side1 => repeat (first | exact (Kd.S_reads' HO218.out).2.2 | (with_reducible refine Kd.C_alloc ?_ _) | (with_reducible refine Kd.C_drewN ?_ _) | (with_reducible refine Kd.C_drew ?_)))
          (case side2 => exact (Kd.S_reads' HO218.out).2.1)
          rintro e w32 ⟨rfl, hb⟩
          refine ⟨_, rfl, ?_⟩
          replace HO218 := zsb HO218 hb
          replace BK213 := zb0 BK213 hb
          replace BK214 := zb0 BK214 hb
          replace HB := zhs HB hb
          (try clear hb)
          (try clear hb2)
          (try clear hk)
          (try clear hi)
          refine hK.out _ _ ⟨zc0 BK213 0 rfl, zc0 BK214 0 rfl, zc0 BK214 1 rfl, zc0 BK214 2 rfl, zc0 BK214 3 rfl, zc0 BK214 4 rfl, zc0 BK214 5 rfl⟩ (fun hHeld => ?_)
          clear hK K
          refine norm_ (a' := ?_) ?_ ?_
          rotate_left
          ·show Act.put _ (some 23) _ = _
           simp only [Act.put, zp1, zp2, zp3, i64_w, i32_w]
           rfl
          refine pure_ (i := 5) (N := some 18) (v := ?_) (a' := ?_) #[true, true, true, true, true, true, false, false, false, false, false, false, false] rfl rfl (any_of HT_.out (by kernel_rfl)) (fun _ _ _ h => h) (Or.inl ⟨by rfl, ?_⟩) ?_ ?_
          rotate_left
          ·intro w'
           go_simp
           with_reducible rfl
          rotate_left
          ·simp only [Act.put, zp1, zp2, zp3, i64_w, i32_w]
           rfl
          refine pure_ (i := 6) (N := some 24) (v := ?_) (a' := ?_) #[true, true, true, true, true, true, true, false, false, false, false, false, false] rfl rfl (any_of HT_.out (by kernel_rfl)) (fun _ _ _ h => h) (Or.inl ⟨by rfl, ?_⟩) ?_ ?_
          rotate_left
          ·intro w'
           go_simp
           with_reducible rfl
          rotate_left
          ·simp only [Act.put, zp1, zp2, zp3, i64_w, i32_w]
           rfl
          refine pure_ (i := 7) (N := some 25) (v := ?_) (a' := ?_) #[true, true, true, true, true, true, true, true, false, false, false, false, false] rfl rfl (any_of HT_.out (by kernel_rfl)) (fun _ _ _ h => h) (Or.inl ⟨by rfl, ?_⟩) ?_ ?_
          rotate_left
          ·intro w'
           go_simp
           with_reducible rfl
          rotate_left
          ·simp only [Act.put, zp1, zp2, zp3, i64_w, i32_w]
           rfl
          refine pure_ (i := 8) (N := some 26) (v := ?_) (a' := ?_) #[true, true, true, true, true, true, true, true, true, false, false, false, false] rfl rfl (any_of HT_.out (by kernel_rfl)) (fun _ _ _ h => h) (Or.inl ⟨by rfl, ?_⟩) ?_ ?_
          rotate_left
          ·intro w'
           go_simp
           with_reducible rfl
          rotate_left
          ·simp only [Act.put, zp1, zp2, zp3, i64_w, i32_w]
           rfl
          refine one_ (i := 9) (N := some 7) #[true, true, true, true, true, true, true, true, true, true, false, false, false] rfl rfl (one_of HT_.out (by kernel_rfl)) (by decide) (fun K hK => ?_)
          refine box_step ?hg (N := 7) ?hd (cs := #[.int .i64 0, .int .i64 0, .int .i64 0, .int .i64 0, .int .i64 0, .int .i64 0]) (t := 36) ?hr ?_; (case hd => rfl); (case hg => rfl); (case hr => first | (go_simp; done) | (go_simp; rfl))
          intro gb233 hg w33 hbox hb
          have BK233 := Aside0.mk (hbox)
          have GW233 := zge HB hg
          have GE233 := zge HB hg
          have NB213_233 := znl BK213 hg
          have NB233_213 := znr BK213 hg
          have NB214_233 := znl BK214 hg
          have NB233_214 := znr BK214 hg
          replace HO218 := zsb HO218 hb
          replace BK213 := zb0 BK213 hb
          replace BK214 := zb0 BK214 hb
          replace HB := zhs HB hb
          clear hb hbox hg
          refine hK.out _ _ ⟨zc0 BK213 0 rfl, zc0 BK214 0 rfl, zc0 BK214 1 rfl, zc0 BK214 2 rfl, zc0 BK214 3 rfl, zc0 BK214 4 rfl, zc0 BK214 5 rfl⟩ (fun hHeld => ?_)
          clear hK K
          refine norm_ (a' := ?_) ?_ ?_
          rotate_left
          ·show Act.put _ (some 7) _ = _
           simp only [Act.put, zp1, zp2, zp3, i64_w, i32_w]
           rfl
          exact norm_ (by simp only [putAll, Act.put, zp1, zp2, zp3]) (hCont (.slice Ao31 t216.length co31, gb233) _ ⟨hHeld, (zs0 HO218), (zk0 BK213), (zk0 BK214), (zk0 BK233), GW233.out, GE233.out, NB213_233.out, NB233_213.out, NB214_233.out, NB233_214.out, (zh0 HB)⟩)
         ·skip
          refine box_step ?hg (N := 7) ?hd (cs := #[.int .i64 0, .int .i64 0, .int .i64 0, .int .i64 0, .int .i64 0, .int .i64 0]) (t := 36) ?hr ?_; (case hd => rfl); (case hg => rfl); (case hr => first | (go_simp; done) | (go_simp; rfl))
          intro gb233 hg w31 hbox hb
          have BK233 := Aside0.mk (hbox)
          have GW233 := zge HB hg
          have GE233 := zge HB hg
          have NB213_233 := znl BK213 hg
          have NB233_213 := znr BK213 hg
          have NB214_233 := znl BK214 hg
          have NB233_214 := znr BK214 hg
          replace HO218 := zsb HO218 hb
          replace BK213 := zb0 BK213 hb
          replace BK214 := zb0 BK214 hb
          replace HB := zhs HB hb
          clear hb hbox hg
          obtain ⟨Ao32, co32, eo32⟩ := Kd.S_slice HO218.out
          (first | subst eo32 | (injection eo32 with f1_ f2_ f3_; have f4_ := f1_.symm; have f5_ := f3_.symm; clear f1_ f2_ f3_; subst f4_; subst f5_))
          refine hK.out _ _ ⟨zc0 BK213 0 rfl, zc0 BK214 0 rfl, zc0 BK214 1 rfl, zc0 BK214 2 rfl, zc0 BK214 3 rfl, zc0 BK214 4 rfl, zc0 BK214 5 rfl⟩ (fun hHeld => ?_)
          clear hK K
          refine norm_ (a' := ?_) ?_ ?_
          rotate_left
          ·show Act.put _ (some 7) _ = _
           simp only [Act.put, zp1, zp2, zp3, i64_w, i32_w]
           rfl
          refine one_ (i := 4) (N := some 23) #[true, true, true, true, true, false, false, false, false, true, false, false, false] rfl rfl (one_of HT_.out (by kernel_rfl)) (by decide) (fun K hK => ?_)
          refine goes_ Try.func36 (by kernel_rfl) rfl #[.agg #[.slice Ao32 t216.length co32], .agg #[.int .i64 t219, .int .i64 t220, .int .i64 t221, .int .i64 t222, .int .i64 t223, .int .i64 t224]] (by rfl) rfl rfl (by (try simp only [List.map_toArray, List.map_cons, List.map_nil]); first | done | rfl | (simp only [List.length_drop, List.length_take]; rfl)) ?_
          with_reducible refine (spec_PopBack.calls k _ _ t216 t219 t220 t221 t222 t223 t224 t225 t226 t227 t228 t229 t230 t231 t232 _ ?side1 ?side2 A12.out).mono ?_
          (case side1 => repeat (first | exact (Kd.S_reads' HO218.out).2.2 | (with_reducible refine Kd.C_alloc ?_ _) | (with_reducible refine Kd.C_drewN ?_ _) | (with_reducible refine Kd.C_drew ?_)))
          (case side2 => exact (Kd.S_reads' HO218.out).2.1)
          rintro e w33 ⟨rfl, hb⟩
          refine ⟨_, rfl, ?_⟩
          replace HO218 := zsb HO218 hb
          replace BK213 := zb0 BK213 hb
          replace BK214 := zb0 BK214 hb
          replace BK233 := zb0 BK233 hb
          replace HB := zhs HB hb
          (try clear hb)
          (try clear hb2)
          (try clear hk)
          (try clear hi)
          refine hK.out _ _ ⟨zc0 BK213 0 rfl, zc0 BK214 0 rfl, zc0 BK214 1 rfl, zc0 BK214 2 rfl, zc0 BK214 3 rfl, zc0 BK214 4 rfl, zc0 BK214 5 rfl⟩ (fun hHeld => ?_)
          clear hK K
          refine norm_ (a' := ?_) ?_ ?_
          rotate_left
          ·show Act.put _ (some 23) _ = _
           simp only [Act.put, zp1, zp2, zp3, i64_w, i32_w]
           rfl
          refine pure_ (i := 5) (N := some 18) (v := ?_) (a' := ?_) #[true, true, true, true, true, true, false, false, false, true, false, false, false] rfl rfl (any_of HT_.out (by kernel_rfl)) (fun _ _ _ h => h) (Or.inl ⟨by rfl, ?_⟩) ?_ ?_
          rotate_left
          ·intro w'
           go_simp
           with_reducible rfl
          rotate_left
          ·simp only [Act.put, zp1, zp2, zp3, i64_w, i32_w]
           rfl
          refine pure_ (i := 6) (N := some 24) (v := ?_) (a' := ?_) #[true, true, true, true, true, true, true, false, false, true, false, false, false] rfl rfl (any_of HT_.out (by kernel_rfl)) (fun _ _ _ h => h) (Or.inl ⟨by rfl, ?_⟩) ?_ ?_
          rotate_left
          ·intro w'
           go_simp
           with_reducible rfl
          rotate_left
          ·simp only [Act.put, zp1, zp2, zp3, i64_w, i32_w]
           rfl
          refine pure_ (i := 7) (N := some 25) (v := ?_) (a' := ?_) #[true, true, true, true, true, true, true, true, false, true, false, false, false] rfl rfl (any_of HT_.out (by kernel_rfl)) (fun _ _ _ h => h) (Or.inl ⟨by rfl, ?_⟩) ?_ ?_
          rotate_left
          ·intro w'
           go_simp
           with_reducible rfl
          rotate_left
          ·simp only [Act.put, zp1, zp2, zp3, i64_w, i32_w]
           rfl
          refine pure_ (i := 8) (N := some 26) (v := ?_) (a' := ?_) #[true, true, true, true, true, true, true, true, true, true, false, false, false] rfl rfl (any_of HT_.out (by kernel_rfl)) (fun _ _ _ h => h) (Or.inl ⟨by rfl, ?_⟩) ?_ ?_
          rotate_left
          ·intro w'
           go_simp
           with_reducible rfl
          rotate_left
          ·simp only [Act.put, zp1, zp2, zp3, i64_w, i32_w]
           rfl
          exact norm_ (by simp only [putAll, Act.put, zp1, zp2, zp3]) (hCont (.slice Ao32 t216.length co32, gb233) _ ⟨hHeld, (zs0 HO218), (zk0 BK213), (zk0 BK214), (zk0 BK233), GW233.out, GE233.out, NB213_233.out, NB233_213.out, NB214_233.out, NB233_214.out, (zh0 HB)⟩)
        ·skip
         refine box_step ?hg (N := 7) ?hd (cs := #[.int .i64 0, .int .i64 0, .int .i64 0, .int .i64 0, .int .i64 0, .int .i64 0]) (t := 36) ?hr ?_; (case hd => rfl); (case hg => rfl); (case hr => first | (go_simp; done) | (go_simp; rfl))
         intro gb233 hg w30 hbox hb
         have BK233 := Aside0.mk (hbox)
         have GW233 := zge HB hg
         have GE233 := zge HB hg
         have NB213_233 := znl BK213 hg
         have NB233_213 := znr BK213 hg
         have NB214_233 := znl BK214 hg
         have NB233_214 := znr BK214 hg
         replace HO218 := zsb HO218 hb
         replace BK213 := zb0 BK213 hb
         replace BK214 := zb0 BK214 hb
         replace HB := zhs HB hb
         clear hb hbox hg
         refine hK.out _ _ ⟨zc0 BK213 0 rfl, zc0 BK214 0 rfl, zc0 BK214 1 rfl, zc0 BK214 2 rfl, zc0 BK214 3 rfl, zc0 BK214 4 rfl, zc0 BK214 5 rfl⟩ (fun hHeld => ?_)
         clear hK K
         refine norm_ (a' := ?_) ?_ ?_
         rotate_left
         ·show Act.put _ (some 7) _ = _
          simp only [Act.put, zp1, zp2, zp3, i64_w, i32_w]
          rfl
         refine one_ (i := 3) (N := some 22) #[true, true, true, true, false, false, false, false, false, true, false, false, false] rfl rfl (one_of HT_.out (by kernel_rfl)) (by decide) (fun K hK => ?_)
         refine goes_ Try.func17 (by kernel_rfl) rfl #[.agg #[.int .i64 a1_0, .int .i64 a1_1, .int .i64 a1_2, .int .i64 a1_3, .int .i64 a1_4, .int .i64 a1_5]] (by rfl) rfl rfl (by (try simp only [List.map_toArray, List.map_cons, List.map_nil]); first | done | rfl | (simp only [List.length_drop, List.length_take]; rfl)) ?_
         with_reducible refine (laws_toRing.calls a1_0 a1_1 a1_2 a1_3 a1_4 a1_5 t219 t220 t221 t222 t223 t224 _ A11.out).mono ?_
         rintro e w31 ⟨rfl, hb⟩
         refine ⟨_, rfl, ?_⟩
         replace HO218 := zsb HO218 hb
         replace BK213 := zb0 BK213 hb
         replace BK214 := zb0 BK214 hb
         replace BK233 := zb0 BK233 hb
         replace HB := zhs HB hb
         (try clear hb)
         (try clear hb2)
         (try clear hk)
         (try clear hi)
         obtain ⟨Ao32, co32, eo32⟩ := Kd.S_slice HO218.out
         (first | subst eo32 | (injection eo32 with f1_ f2_ f3_; have f4_ := f1_.symm; have f5_ := f3_.symm; clear f1_ f2_ f3_; subst f4_; subst f5_))
         refine hK.out _ _ ⟨zc0 BK213 0 rfl, zc0 BK214 0 rfl, zc0 BK214 1 rfl, zc0 BK214 2 rfl, zc0 BK214 3 rfl, zc0 BK214 4 rfl, zc0 BK214 5 rfl⟩ (fun hHeld => ?_)
         clear hK K
         refine norm_ (a' := ?_) ?_ ?_
         rotate_left
         ·show Act.put _ (some 22) _ = _
          simp only [Act.put, zp1, zp2, zp3, i64_w, i32_w]
          rfl
         refine one_ (i := 4) (N := some 23) #[true, true, true, true, true, false, false, false, false, true, false, false, false] rfl rfl (one_of HT_.out (by kernel_rfl)) (by decide) (fun K hK => ?_)
         refine goes_ Try.func36 (by kernel_rfl) rfl #[.agg #[.slice Ao32 t216.length co32], .agg #[.int .i64 t219, .int .i64 t220, .int .i64 t221, .int .i64 t222, .int .i64 t223, .int .i64 t224]] (by rfl) rfl rfl (by (try simp only [List.map_toArray, List.map_cons, List.map_nil]); first | done | rfl | (simp only [List.length_drop, List.length_take]; rfl)) ?_
         with_reducible refine (spec_PopBack.calls k _ _ t216 t219 t220 t221 t222 t223 t224 t225 t226 t227 t228 t229 t230 t231 t232 _ ?side1 ?side2 A12.out).mono ?_
         (case side1 => repeat (first | exact (Kd.S_reads' HO218.out).2.2 | (with_reducible refine Kd.C_alloc ?_ _) | (with_reducible refine Kd.C_drewN ?_ _) | (with_reducible refine Kd.C_drew ?_)))
         (case side2 => exact (Kd.S_reads' HO218.out).2.1)
         rintro e w33 ⟨rfl, hb⟩
         refine ⟨_, rfl, ?_⟩
         replace HO218 := zsb HO218 hb
         replace BK213 := zb0 BK213 hb
         replace BK214 := zb0 BK214 hb
         replace BK233 := zb0 BK233 hb
         replace HB := zhs HB hb
         (try clear hb)
         (try clear hb2)
         (try clear hk)
         (try clear hi)
         refine hK.out _ _ ⟨zc0 BK213 0 rfl, zc0 BK214 0 rfl, zc0 BK214 1 rfl, zc0 BK214 2 rfl, zc0 BK214 3 rfl, zc0 BK214 4 rfl, zc0 BK214 5 rfl⟩ (fun hHeld => ?_)
         clear hK K
         refine norm_ (a' := ?_) ?_ ?_
         rotate_left
         ·show Act.put _ (some 23) _ = _
          simp only [Act.put, zp1, zp2, zp3, i64_w, i32_w]
          rfl
         refine pure_ (i := 5) (N := some 18) (v := ?_) (a' := ?_) #[true, true, true, true, true, true, false, false, false, true, false, false, false] rfl rfl (any_of HT_.out (by kernel_rfl)) (fun _ _ _ h => h) (Or.inl ⟨by rfl, ?_⟩) ?_ ?_
         rotate_left
         ·intro w'
          go_simp
          with_reducible rfl
         rotate_left
         ·simp only [Act.put, zp1, zp2, zp3, i64_w, i32_w]
          rfl
         refine pure_ (i := 6) (N := some 24) (v := ?_) (a' := ?_) #[true, true, true, true, true, true, true, false, false, true, false, false, false] rfl rfl (any_of HT_.out (by kernel_rfl)) (fun _ _ _ h => h) (Or.inl ⟨by rfl, ?_⟩) ?_ ?_
         rotate_left
         ·intro w'
          go_simp
          with_reducible rfl
         rotate_left
         ·simp only [Act.put, zp1, zp2, zp3, i64_w, i32_w]
          rfl
         refine pure_ (i := 7) (N := some 25) (v := ?_) (a' := ?_) #[true, true, true, true, true, true, true, true, false, true, false, false, false] rfl rfl (any_of HT_.out (by kernel_rfl)) (fun _ _ _ h => h) (Or.inl ⟨by rfl, ?_⟩) ?_ ?_
         rotate_left
         ·intro w'
          go_simp
          with_reducible rfl
         rotate_left
         ·simp only [Act.put, zp1, zp2, zp3, i64_w, i32_w]
          rfl
         refine pure_ (i := 8) (N := some 26) (v := ?_) (a' := ?_) #[true, true, true, true, true, true, true, true, true, true, false, false, false] rfl rfl (any_of HT_.out (by kernel_rfl)) (fun _ _ _ h => h) (Or.inl ⟨by rfl, ?_⟩) ?_ ?_
         rotate_left
         ·intro w'
          go_simp
          with_reducible rfl
         rotate_left
         ·simp only [Act.put, zp1, zp2, zp3, i64_w, i32_w]
          rfl
         exact norm_ (by simp only [putAll, Act.put, zp1, zp2, zp3]) (hCont (.slice Ao32 t216.length co32, gb233) _ ⟨hHeld, (zs0 HO218), (zk0 BK213), (zk0 BK214), (zk0 BK233), GW233.out, GE233.out, NB213_233.out, NB233_213.out, NB214_233.out, NB233_214.out, (zh0 HB)⟩)
       ·skip
        refine box_step ?hg (N := 7) ?hd (cs := #[.int .i64 0, .int .i64 0, .int .i64 0, .int .i64 0, .int .i64 0, .int .i64 0]) (t := 36) ?hr ?_; (case hd => rfl); (case hg => rfl); (case hr => first | (go_simp; done) | (go_simp; rfl))
        intro gb233 hg w29 hbox hb
        have BK233 := Aside0.mk (hbox)
        have GW233 := zge HB hg
        have GE233 := zge HB hg
        have NB213_233 := znl BK213 hg
        have NB233_213 := znr BK213 hg
        have NB214_233 := znl BK214 hg
        have NB233_214 := znr BK214 hg
        replace BK213 := zb0 BK213 hb
        replace BK214 := zb0 BK214 hb
        replace HB := zhs HB hb
        clear hb hbox hg
        refine hK.out _ _ ⟨zc0 BK213 0 rfl, zc0 BK214 0 rfl, zc0 BK214 1 rfl, zc0 BK214 2 rfl, zc0 BK214 3 rfl, zc0 BK214 4 rfl, zc0 BK214 5 rfl⟩ (fun hHeld => ?_)
        clear hK K
        refine norm_ (a' := ?_) ?_ ?_
        rotate_left
        ·show Act.put _ (some 7) _ = _
         simp only [Act.put, zp1, zp2, zp3, i64_w, i32_w]
         rfl
        refine one_ (i := 1) (N := some 20) #[true, true, true, false, false, false, false, false, false, true, false, false, false] rfl rfl (one_of HT_.out (by kernel_rfl)) (by decide) (fun K hK => ?_)
        refine goes_ Try.func16 (by kernel_rfl) rfl #[.agg #[.slice A0_0 l0_0.length c0_0]] (by rfl) rfl rfl (by (try simp only [List.map_toArray, List.map_cons, List.map_nil]); first | done | rfl | (simp only [List.length_drop, List.length_take]; rfl)) ?_
        with_reducible refine (laws_toMemory.calls k _ _ l0_0 t216 _ ?side1 ?side2 A10.out).mono ?_
        (case side1 => repeat (first | exact (Kd.C_below HR0_0.out HB.out) | (with_reducible refine Kd.C_alloc ?_ _) | (with_reducible refine Kd.C_drewN ?_ _) | (with_reducible refine Kd.C_drew ?_)))
        (case side2 => exact HC0_0.out)
        rintro e w30 ⟨v217, rfl, ho0, hb⟩
        refine ⟨_, rfl, ?_⟩
        have HO218 := Aside0.mk (Kd.S_lower ho0 (below_size (zh0 HB)))
        replace BK213 := zb0 BK213 hb
        replace BK214 := zb0 BK214 hb
        replace BK233 := zb0 BK233 hb
        replace HB := zhs HB hb
        (try clear hb)
        (try clear hb2)
        (try clear hk)
        (try clear hi)
        (try clear ho0)
        refine hK.out _ _ ⟨zc0 BK213 0 rfl, zc0 BK214 0 rfl, zc0 BK214 1 rfl, zc0 BK214 2 rfl, zc0 BK214 3 rfl, zc0 BK214 4 rfl, zc0 BK214 5 rfl⟩ (fun hHeld => ?_)
        clear hK K
        refine norm_ (a' := ?_) ?_ ?_
        rotate_left
        ·show Act.put _ (some 20) _ = _
         simp only [Act.put, zp1, zp2, zp3, i64_w, i32_w]
         rfl
        refine one_ (i := 3) (N := some 22) #[true, true, true, true, false, false, false, false, false, true, false, false, false] rfl rfl (one_of HT_.out (by kernel_rfl)) (by decide) (fun K hK => ?_)
        refine goes_ Try.func17 (by kernel_rfl) rfl #[.agg #[.int .i64 a1_0, .int .i64 a1_1, .int .i64 a1_2, .int .i64 a1_3, .int .i64 a1_4, .int .i64 a1_5]] (by rfl) rfl rfl (by (try simp only [List.map_toArray, List.map_cons, List.map_nil]); first | done | rfl | (simp only [List.length_drop, List.length_take]; rfl)) ?_
        with_reducible refine (laws_toRing.calls a1_0 a1_1 a1_2 a1_3 a1_4 a1_5 t219 t220 t221 t222 t223 t224 _ A11.out).mono ?_
        rintro e w31 ⟨rfl, hb⟩
        refine ⟨_, rfl, ?_⟩
        replace HO218 := zsb HO218 hb
        replace BK213 := zb0 BK213 hb
        replace BK214 := zb0 BK214 hb
        replace BK233 := zb0 BK233 hb
        replace HB := zhs HB hb
        (try clear hb)
        (try clear hb2)
        (try clear hk)
        (try clear hi)
        obtain ⟨Ao32, co32, eo32⟩ := Kd.S_slice HO218.out
        (first | subst eo32 | (injection eo32 with f1_ f2_ f3_; have f4_ := f1_.symm; have f5_ := f3_.symm; clear f1_ f2_ f3_; subst f4_; subst f5_))
        refine hK.out _ _ ⟨zc0 BK213 0 rfl, zc0 BK214 0 rfl, zc0 BK214 1 rfl, zc0 BK214 2 rfl, zc0 BK214 3 rfl, zc0 BK214 4 rfl, zc0 BK214 5 rfl⟩ (fun hHeld => ?_)
        clear hK K
        refine norm_ (a' := ?_) ?_ ?_
        rotate_left
        ·show Act.put _ (some 22) _ = _
         simp only [Act.put, zp1, zp2, zp3, i64_w, i32_w]
         rfl
        refine one_ (i := 4) (N := some 23) #[true, true, true, true, true, false, false, false, false, true, false, false, false] rfl rfl (one_of HT_.out (by kernel_rfl)) (by decide) (fun K hK => ?_)
        refine goes_ Try.func36 (by kernel_rfl) rfl #[.agg #[.slice Ao32 t216.length co32], .agg #[.int .i64 t219, .int .i64 t220, .int .i64 t221, .int .i64 t222, .int .i64 t223, .int .i64 t224]] (by rfl) rfl rfl (by (try simp only [List.map_toArray, List.map_cons, List.map_nil]); first | done | rfl | (simp only [List.length_drop, List.length_take]; rfl)) ?_
        with_reducible refine (spec_PopBack.calls k _ _ t216 t219 t220 t221 t222 t223 t224 t225 t226 t227 t228 t229 t230 t231 t232 _ ?side1 ?side2 A12.out).mono ?_
        (case side1 => repeat (first | exact (Kd.S_reads' HO218.out).2.2 | (with_reducible refine Kd.C_alloc ?_ _) | (with_reducible refine Kd.C_drewN ?_ _) | (with_reducible refine Kd.C_drew ?_)))
        (case side2 => exact (Kd.S_reads' HO218.out).2.1)
        rintro e w33 ⟨rfl, hb⟩
        refine ⟨_, rfl, ?_⟩
        replace HO218 := zsb HO218 hb
        replace BK213 := zb0 BK213 hb
        replace BK214 := zb0 BK214 hb
        replace BK233 := zb0 BK233 hb
        replace HB := zhs HB hb
        (try clear hb)
        (try clear hb2)
        (try clear hk)
        (try clear hi)
        refine hK.out _ _ ⟨zc0 BK213 0 rfl, zc0 BK214 0 rfl, zc0 BK214 1 rfl, zc0 BK214 2 rfl, zc0 BK214 3 rfl, zc0 BK214 4 rfl, zc0 BK214 5 rfl⟩ (fun hHeld => ?_)
        clear hK K
        refine norm_ (a' := ?_) ?_ ?_
        rotate_left
        ·show Act.put _ (some 23) _ = _
         simp only [Act.put, zp1, zp2, zp3, i64_w, i32_w]
         rfl
        refine pure_ (i := 5) (N := some 18) (v := ?_) (a' := ?_) #[true, true, true, true, true, true, false, false, false, true, false, false, false] rfl rfl (any_of HT_.out (by kernel_rfl)) (fun _ _ _ h => h) (Or.inl ⟨by rfl, ?_⟩) ?_ ?_
        rotate_left
        ·intro w'
         go_simp
         with_reducible rfl
        rotate_left
        ·simp only [Act.put, zp1, zp2, zp3, i64_w, i32_w]
         rfl
        refine pure_ (i := 6) (N := some 24) (v := ?_) (a' := ?_) #[true, true, true, true, true, true, true, false, false, true, false, false, false] rfl rfl (any_of HT_.out (by kernel_rfl)) (fun _ _ _ h => h) (Or.inl ⟨by rfl, ?_⟩) ?_ ?_
        rotate_left
        ·intro w'
         go_simp
         with_reducible rfl
        rotate_left
        ·simp only [Act.put, zp1, zp2, zp3, i64_w, i32_w]
         rfl
        refine pure_ (i := 7) (N := some 25) (v := ?_) (a' := ?_) #[true, true, true, true, true, true, true, true, false, true, false, false, false] rfl rfl (any_of HT_.out (by kernel_rfl)) (fun _ _ _ h => h) (Or.inl ⟨by rfl, ?_⟩) ?_ ?_
        rotate_left
        ·intro w'
         go_simp
         with_reducible rfl
        rotate_left
        ·simp only [Act.put, zp1, zp2, zp3, i64_w, i32_w]
         rfl
        refine pure_ (i := 8) (N := some 26) (v := ?_) (a' := ?_) #[true, true, true, true, true, true, true, true, true, true, false, false, false] rfl rfl (any_of HT_.out (by kernel_rfl)) (fun _ _ _ h => h) (Or.inl ⟨by rfl, ?_⟩) ?_ ?_
        rotate_left
        ·intro w'
         go_simp
         with_reducible rfl
        rotate_left
        ·simp only [Act.put, zp1, zp2, zp3, i64_w, i32_w]
         rfl
        exact norm_ (by simp only [putAll, Act.put, zp1, zp2, zp3]) (hCont (.slice Ao32 t216.length co32, gb233) _ ⟨hHeld, (zs0 HO218), (zk0 BK213), (zk0 BK214), (zk0 BK233), GW233.out, GE233.out, NB213_233.out, NB233_213.out, NB214_233.out, NB233_214.out, (zh0 HB)⟩)
      rintro ⟨v217, gb233⟩ w34 ⟨hS_, h0_, h1_, h2_, h3_, h4_, h5_, h6_, h7_, h8_, h9_, h10_⟩
      try dsimp only at hS_ h0_ h1_ h2_ h3_ h4_ h5_ h6_ h7_ h8_ h9_ h10_
      have HO218 := Aside0.mk h0_
      have BK233 := Aside0.mk h3_
      have GW233 := Aside0.mk h4_
      have GE233 := Aside0.mk h5_
      have NB213_233 := Aside0.mk h6_
      have NB233_213 := Aside0.mk h7_
      have NB214_233 := Aside0.mk h8_
      have NB233_214 := Aside0.mk h9_
      replace BK213 := Aside0.mk h1_
      replace BK214 := Aside0.mk h2_
      replace HB := Aside0.mk h10_
      clear h0_ h1_ h2_ h3_ h4_ h5_ h6_ h7_ h8_ h9_ h10_
      have hHeld := hS_
      refine norm_ (a' := ?_) ?_ ?_
      rotate_left
      ·simp only [putAll, Act.put, zp1, zp2, zp3]
       rfl
      refine pure_ (i := 10) (N := some 6) (v := ?_) (a' := ?_) #[true, true, true, true, true, true, true, true, true, true, true, false, false] rfl rfl (any_of HT_.out (by kernel_rfl)) (fun _ _ _ h => h) (Or.inl ⟨by rfl, ?_⟩) ?_ ?_
      rotate_left
      ·intro w'
       go_simp
       with_reducible rfl
      rotate_left
      ·simp only [Act.put, zp1, zp2, zp3, i64_w, i32_w]
       rfl
      refine one_ (i := 11) (N := none) #[true, true, true, true, true, true, true, true, true, true, true, true, false] rfl rfl (one_of HT_.out (by kernel_rfl)) (by decide) (fun K hK => ?_)
      have hs35 : w34.cell? ⟨gb233, 0, none⟩ = some (.int .i64 0) := zc0 BK233 0 rfl
      have hfs35 := blk_frozen BK233.out 0
      have hns35_0 := NB213_233.out
      have hns35_1 := NB214_233.out
      have hms35_0 := NB233_213.out
      have hms35_1 := NB233_214.out
      have hs36 : w34.cell? ⟨gb233, 1, none⟩ = some (.int .i64 0) := zc0 BK233 1 rfl
      have hfs36 := blk_frozen BK233.out 1
      have hns36_0 := NB213_233.out
      have hns36_1 := NB214_233.out
      have hms36_0 := NB233_213.out
      have hms36_1 := NB233_214.out
      have hs37 : w34.cell? ⟨gb233, 2, none⟩ = some (.int .i64 0) := zc0 BK233 2 rfl
      have hfs37 := blk_frozen BK233.out 2
      have hns37_0 := NB213_233.out
      have hns37_1 := NB214_233.out
      have hms37_0 := NB233_213.out
      have hms37_1 := NB233_214.out
      have hs38 : w34.cell? ⟨gb233, 3, none⟩ = some (.int .i64 0) := zc0 BK233 3 rfl
      have hfs38 := blk_frozen BK233.out 3
      have hns38_0 := NB213_233.out
      have hns38_1 := NB214_233.out
      have hms38_0 := NB233_213.out
      have hms38_1 := NB233_214.out
      have hs39 : w34.cell? ⟨gb233, 4, none⟩ = some (.int .i64 0) := zc0 BK233 4 rfl
      have hfs39 := blk_frozen BK233.out 4
      have hns39_0 := NB213_233.out
      have hns39_1 := NB214_233.out
      have hms39_0 := NB233_213.out
      have hms39_1 := NB233_214.out
      have hs40 : w34.cell? ⟨gb233, 5, none⟩ = some (.int .i64 0) := zc0 BK233 5 rfl
      have hfs40 := blk_frozen BK233.out 5
      have hns40_0 := NB213_233.out
      have hns40_1 := NB214_233.out
      have hms40_0 := NB233_213.out
      have hms40_1 := NB233_214.out
      refine skip_ (w1 := ?_) (by rfl) rfl ?_ ?_
      rotate_left
      ·go_simp
       rfl
      refine hK.out _ _ ⟨((cell_far (p := ⟨gb233, _, none⟩) NB213_233.out _).trans (((cell_far (p := ⟨gb233, _, none⟩) NB213_233.out _).trans (((cell_far (p := ⟨gb233, _, none⟩) NB213_233.out _).trans (((cell_far (p := ⟨gb233, _, none⟩) NB213_233.out _).trans (((cell_far (p := ⟨gb233, _, none⟩) NB213_233.out _).trans (((cell_far (p := ⟨gb233, _, none⟩) NB213_233.out _).trans (hHeld.1)))))))))))), ((cell_far (p := ⟨gb233, _, none⟩) NB214_233.out _).trans (((cell_far (p := ⟨gb233, _, none⟩) NB214_233.out _).trans (((cell_far (p := ⟨gb233, _, none⟩) NB214_233.out _).trans (((cell_far (p := ⟨gb233, _, none⟩) NB214_233.out _).trans (((cell_far (p := ⟨gb233, _, none⟩) NB214_233.out _).trans (((cell_far (p := ⟨gb233, _, none⟩) NB214_233.out _).trans (hHeld.2.1)))))))))))), ((cell_far (p := ⟨gb233, _, none⟩) NB214_233.out _).trans (((cell_far (p := ⟨gb233, _, none⟩) NB214_233.out _).trans (((cell_far (p := ⟨gb233, _, none⟩) NB214_233.out _).trans (((cell_far (p := ⟨gb233, _, none⟩) NB214_233.out _).trans (((cell_far (p := ⟨gb233, _, none⟩) NB214_233.out _).trans (((cell_far (p := ⟨gb233, _, none⟩) NB214_233.out _).trans (hHeld.2.2.1)))))))))))), ((cell_far (p := ⟨gb233, _, none⟩) NB214_233.out _).trans (((cell_far (p := ⟨gb233, _, none⟩) NB214_233.out _).trans (((cell_far (p := ⟨gb233, _, none⟩) NB214_233.out _).trans (((cell_far (p := ⟨gb233, _, none⟩) NB214_233.out _).trans (((cell_far (p := ⟨gb233, _, none⟩) NB214_233.out _).trans (((cell_far (p := ⟨gb233, _, none⟩) NB214_233.out _).trans (hHeld.2.2.2.1)))))))))))), ((cell_far (p := ⟨gb233, _, none⟩) NB214_233.out _).trans (((cell_far (p := ⟨gb233, _, none⟩) NB214_233.out _).trans (((cell_far (p := ⟨gb233, _, none⟩) NB214_233.out _).trans (((cell_far (p := ⟨gb233, _, none⟩) NB214_233.out _).trans (((cell_far (p := ⟨gb233, _, none⟩) NB214_233.out _).trans (((cell_far (p := ⟨gb233, _, none⟩) NB214_233.out _).trans (hHeld.2.2.2.2.1)))))))))))), ((cell_far (p := ⟨gb233, _, none⟩) NB214_233.out _).trans (((cell_far (p := ⟨gb233, _, none⟩) NB214_233.out _).trans (((cell_far (p := ⟨gb233, _, none⟩) NB214_233.out _).trans (((cell_far (p := ⟨gb233, _, none⟩) NB214_233.out _).trans (((cell_far (p := ⟨gb233, _, none⟩) NB214_233.out _).trans (((cell_far (p := ⟨gb233, _, none⟩) NB214_233.out _).trans (hHeld.2.2.2.2.2.1)))))))))))), ((cell_far (p := ⟨gb233, _, none⟩) NB214_233.out _).trans (((cell_far (p := ⟨gb233, _, none⟩) NB214_233.out _).trans (((cell_far (p := ⟨gb233, _, none⟩) NB214_233.out _).trans (((cell_far (p := ⟨gb233, _, none⟩) NB214_233.out _).trans (((cell_far (p := ⟨gb233, _, none⟩) NB214_233.out _).trans (((cell_far (p := ⟨gb233, _, none⟩) NB214_233.out _).trans (hHeld.2.2.2.2.2.2))))))))))))⟩ (fun hHeld => ?_)
      clear hK K
      refine pure_ (i := 12) (N := some 8) (v := ?_) (a' := ?_) #[true, true, true, true, true, true, true, true, true, true, true, true, true] rfl rfl (any_of HT_.out (by kernel_rfl)) (fun _ _ _ h => h) (Or.inl ⟨by rfl, ?_⟩) ?_ ?_
      rotate_left
      ·intro w'
       go_simp
       with_reducible rfl
      rotate_left
      ·simp only [Act.put, zp1, zp2, zp3, i64_w, i32_w]
       rfl
      refine done_ (done_of HT_.out (by kernel_rfl)) ?_
      have hnb41 := NB213_233.out
      have hnc41 := NB233_213.out
      have hcz42_0 : w34.cell? ⟨gb213, 0, none⟩ = some (.slice A0_0 l0_0.length c0_0) := zc0 BK213 0 rfl
      have hfz42_0 := blk_frozen BK213.out 0
      try go_wp2_with (first | ((with_reducible refine gate_callee (f := 16) rfl ?_); refine goesL_ (some 28) rfl rfl Try.func16 (by kernel_rfl) rfl #[.agg #[.slice A0_0 l0_0.length c0_0]] rfl (by (try simp only [List.map_toArray, List.map_cons, List.map_nil]); first | done | rfl | (simp only [List.length_drop, List.length_take]; rfl)) ?_; (with_reducible refine (laws_toMemory.calls k _ _ l0_0 t234 _ ?side1 ?side2 A13.out).mono ?_); (case side1 => exact Kd.C_below HR0_0.out (by repeat (first | (with_reducible first | exact HB.out | apply below_alloc | apply pw_below_drewN | apply below_drew1 | refine below_set ?_ GE213.out | refine below_set ?_ GE214.out | refine below_set ?_ GE233.out) | exact HB.out))); (case side2 => exact HC0_0.out); rintro e w43 ⟨v235, rfl, ho0, hb⟩; refine ⟨_, rfl, ?_⟩; have HO236 := Aside0.mk (Kd.S_lower (Kd.S_new' ho0 (Kd.S_lt (by (with_reducible repeat (first | apply Kd.S_alloc | apply Kd.S_drewN | apply Kd.S_drew)); exact (Kd.S_mono (Kd.S_far (p := ⟨gb233, 5, none⟩) (Kd.S_far (p := ⟨gb233, 4, none⟩) (Kd.S_far (p := ⟨gb233, 3, none⟩) (Kd.S_far (p := ⟨gb233, 2, none⟩) (Kd.S_far (p := ⟨gb233, 1, none⟩) (Kd.S_far (p := ⟨gb233, 0, none⟩) (Kd.S_types HO218.out BK233.out (by decide)) (fun _ hk => hk.2) (.int .i64 t226)) (fun _ hk => hk.2) (.int .i64 t227)) (fun _ hk => hk.2) (.int .i64 t228)) (fun _ hk => hk.2) (.int .i64 t229)) (fun _ hk => hk.2) (.int .i64 t230)) (fun _ hk => hk.2) (.int .i64 t231)) (fun _ h_ => h_.1))))) (below_size (by repeat (first | (with_reducible first | exact HB.out | apply below_alloc | apply pw_below_drewN | apply below_drew1 | refine below_set ?_ GE213.out | refine below_set ?_ GE214.out | refine below_set ?_ GE233.out) | exact HB.out)))); replace HO218 := Aside0.mk (Kd.S_elder' (by (with_reducible repeat (first | apply Kd.S_alloc | apply Kd.S_drewN | apply Kd.S_drew)); exact (Kd.S_mono (Kd.S_far (p := ⟨gb233, 5, none⟩) (Kd.S_far (p := ⟨gb233, 4, none⟩) (Kd.S_far (p := ⟨gb233, 3, none⟩) (Kd.S_far (p := ⟨gb233, 2, none⟩) (Kd.S_far (p := ⟨gb233, 1, none⟩) (Kd.S_far (p := ⟨gb233, 0, none⟩) (Kd.S_types HO218.out BK233.out (by decide)) (fun _ hk => hk.2) (.int .i64 t226)) (fun _ hk => hk.2) (.int .i64 t227)) (fun _ hk => hk.2) (.int .i64 t228)) (fun _ hk => hk.2) (.int .i64 t229)) (fun _ hk => hk.2) (.int .i64 t230)) (fun _ hk => hk.2) (.int .i64 t231)) (fun _ h_ => h_.1))) (Kd.S_base ho0) hb); replace BK213 := Aside0.mk (blk_below (g := gb213) (o := .cells #[.slice A0_0 l0_0.length c0_0] 24 (0, 0)) (by (with_reducible repeat (first | refine blk_drewN ?_ _ | refine blk_drew ?_ | refine blk_alloc ?_ _)); refine blk_far ?_ NB213_233.out _; (with_reducible repeat (first | refine blk_drewN ?_ _ | refine blk_drew ?_ | refine blk_alloc ?_ _)); refine blk_far ?_ NB213_233.out _; (with_reducible repeat (first | refine blk_drewN ?_ _ | refine blk_drew ?_ | refine blk_alloc ?_ _)); refine blk_far ?_ NB213_233.out _; (with_reducible repeat (first | refine blk_drewN ?_ _ | refine blk_drew ?_ | refine blk_alloc ?_ _)); refine blk_far ?_ NB213_233.out _; (with_reducible repeat (first | refine blk_drewN ?_ _ | refine blk_drew ?_ | refine blk_alloc ?_ _)); refine blk_far ?_ NB213_233.out _; (with_reducible repeat (first | refine blk_drewN ?_ _ | refine blk_drew ?_ | refine blk_alloc ?_ _)); refine blk_far ?_ NB213_233.out _; (with_reducible repeat (first | refine blk_drewN ?_ _ | refine blk_drew ?_ | refine blk_alloc ?_ _)); exact BK213.out) hb); replace BK214 := Aside0.mk (blk_below (g := gb214) (o := .cells #[.int .i64 a1_0, .int .i64 a1_1, .int .i64 a1_2, .int .i64 a1_3, .int .i64 a1_4, .int .i64 a1_5] 28 (0, 0)) (by (with_reducible repeat (first | refine blk_drewN ?_ _ | refine blk_drew ?_ | refine blk_alloc ?_ _)); refine blk_far ?_ NB214_233.out _; (with_reducible repeat (first | refine blk_drewN ?_ _ | refine blk_drew ?_ | refine blk_alloc ?_ _)); refine blk_far ?_ NB214_233.out _; (with_reducible repeat (first | refine blk_drewN ?_ _ | refine blk_drew ?_ | refine blk_alloc ?_ _)); refine blk_far ?_ NB214_233.out _; (with_reducible repeat (first | refine blk_drewN ?_ _ | refine blk_drew ?_ | refine blk_alloc ?_ _)); refine blk_far ?_ NB214_233.out _; (with_reducible repeat (first | refine blk_drewN ?_ _ | refine blk_drew ?_ | refine blk_alloc ?_ _)); refine blk_far ?_ NB214_233.out _; (with_reducible repeat (first | refine blk_drewN ?_ _ | refine blk_drew ?_ | refine blk_alloc ?_ _)); refine blk_far ?_ NB214_233.out _; (with_reducible repeat (first | refine blk_drewN ?_ _ | refine blk_drew ?_ | refine blk_alloc ?_ _)); exact BK214.out) hb); replace BK233 := Aside0.mk (blk_below (g := gb233) (o := .cells #[.int .i64 t226, .int .i64 t227, .int .i64 t228, .int .i64 t229, .int .i64 t230, .int .i64 t231] 36 (0, 0)) (by (with_reducible repeat (first | refine blk_drewN ?_ _ | refine blk_drew ?_ | refine blk_alloc ?_ _)); refine blk_put (cs := #[.int .i64 t226, .int .i64 t227, .int .i64 t228, .int .i64 t229, .int .i64 t230, .int .i64 0]) ?_ 5 _ rfl; (with_reducible repeat (first | refine blk_drewN ?_ _ | refine blk_drew ?_ | refine blk_alloc ?_ _)); refine blk_put (cs := #[.int .i64 t226, .int .i64 t227, .int .i64 t228, .int .i64 t229, .int .i64 0, .int .i64 0]) ?_ 4 _ rfl; (with_reducible repeat (first | refine blk_drewN ?_ _ | refine blk_drew ?_ | refine blk_alloc ?_ _)); refine blk_put (cs := #[.int .i64 t226, .int .i64 t227, .int .i64 t228, .int .i64 0, .int .i64 0, .int .i64 0]) ?_ 3 _ rfl; (with_reducible repeat (first | refine blk_drewN ?_ _ | refine blk_drew ?_ | refine blk_alloc ?_ _)); refine blk_put (cs := #[.int .i64 t226, .int .i64 t227, .int .i64 0, .int .i64 0, .int .i64 0, .int .i64 0]) ?_ 2 _ rfl; (with_reducible repeat (first | refine blk_drewN ?_ _ | refine blk_drew ?_ | refine blk_alloc ?_ _)); refine blk_put (cs := #[.int .i64 t226, .int .i64 0, .int .i64 0, .int .i64 0, .int .i64 0, .int .i64 0]) ?_ 1 _ rfl; (with_reducible repeat (first | refine blk_drewN ?_ _ | refine blk_drew ?_ | refine blk_alloc ?_ _)); refine blk_put (cs := #[.int .i64 0, .int .i64 0, .int .i64 0, .int .i64 0, .int .i64 0, .int .i64 0]) ?_ 0 _ rfl; (with_reducible repeat (first | refine blk_drewN ?_ _ | refine blk_drew ?_ | refine blk_alloc ?_ _)); exact BK233.out) hb); replace HB := Aside0.mk (below_step (by repeat (first | (with_reducible first | exact HB.out | apply below_alloc | apply pw_below_drewN | apply below_drew1 | refine below_set ?_ GE213.out | refine below_set ?_ GE214.out | refine below_set ?_ GE233.out) | exact HB.out)) hb); (try clear hb); (try clear hb2); (try clear hk); (try clear hi); (try clear ho0)) | ((with_reducible refine gate_dst (N := 9) rfl ?_); refine box_event ?hg (N := 9) ?hd (cs := #[.slice none 0 0]) (t := 32) ?hr ?_; (case hd => rfl); (case hg => rfl); (case hr => first | (go_simp; done) | (go_simp; rfl)); intro gb237 hg w44 hbox hb; have BK237 := Aside0.mk (hbox); have GW237 := Aside0.mk ((by rw [hg]; exact (below_size (by repeat (first | (with_reducible first | exact HB.out | apply below_alloc | apply pw_below_drewN | apply below_drew1 | refine below_set ?_ GE213.out | refine below_set ?_ GE214.out | refine below_set ?_ GE233.out) | exact HB.out))) : w.heap.size ≤ gb237)); have GE237 := Aside0.mk ((by rw [hg]; exact (below_size (by repeat (first | (with_reducible first | exact HB.out | apply below_alloc | apply pw_below_drewN | apply below_drew1 | refine below_set ?_ GE213.out | refine below_set ?_ GE214.out | refine below_set ?_ GE233.out) | exact HB.out))) : w.heap.size ≤ gb237)); have NB213_237 := Aside0.mk ((by rw [hg]; exact Nat.ne_of_lt (blk_lt (g := gb213) (o := .cells #[.slice A0_0 l0_0.length c0_0] 24 (0, 0)) (by (with_reducible repeat (first | refine blk_drewN ?_ _ | refine blk_drew ?_ | refine blk_alloc ?_ _)); exact BK213.out)) : gb213 ≠ gb237)); have NB237_213 := Aside0.mk ((by rw [hg]; exact Nat.ne_of_gt (blk_lt (g := gb213) (o := .cells #[.slice A0_0 l0_0.length c0_0] 24 (0, 0)) (by (with_reducible repeat (first | refine blk_drewN ?_ _ | refine blk_drew ?_ | refine blk_alloc ?_ _)); exact BK213.out)) : gb237 ≠ gb213)); have NB214_237 := Aside0.mk ((by rw [hg]; exact Nat.ne_of_lt (blk_lt (g := gb214) (o := .cells #[.int .i64 a1_0, .int .i64 a1_1, .int .i64 a1_2, .int .i64 a1_3, .int .i64 a1_4, .int .i64 a1_5] 28 (0, 0)) (by (with_reducible repeat (first | refine blk_drewN ?_ _ | refine blk_drew ?_ | refine blk_alloc ?_ _)); exact BK214.out)) : gb214 ≠ gb237)); have NB237_214 := Aside0.mk ((by rw [hg]; exact Nat.ne_of_gt (blk_lt (g := gb214) (o := .cells #[.int .i64 a1_0, .int .i64 a1_1, .int .i64 a1_2, .int .i64 a1_3, .int .i64 a1_4, .int .i64 a1_5] 28 (0, 0)) (by (with_reducible repeat (first | refine blk_drewN ?_ _ | refine blk_drew ?_ | refine blk_alloc ?_ _)); exact BK214.out)) : gb237 ≠ gb214)); have NB233_237 := Aside0.mk ((by rw [hg]; exact Nat.ne_of_lt (blk_lt (g := gb233) (o := .cells #[.int .i64 t226, .int .i64 t227, .int .i64 t228, .int .i64 t229, .int .i64 t230, .int .i64 t231] 36 (0, 0)) (by (with_reducible repeat (first | refine blk_drewN ?_ _ | refine blk_drew ?_ | refine blk_alloc ?_ _)); exact BK233.out)) : gb233 ≠ gb237)); have NB237_233 := Aside0.mk ((by rw [hg]; exact Nat.ne_of_gt (blk_lt (g := gb233) (o := .cells #[.int .i64 t226, .int .i64 t227, .int .i64 t228, .int .i64 t229, .int .i64 t230, .int .i64 t231] 36 (0, 0)) (by (with_reducible repeat (first | refine blk_drewN ?_ _ | refine blk_drew ?_ | refine blk_alloc ?_ _)); exact BK233.out)) : gb237 ≠ gb233)); replace HO218 := zsb HO218 hb; replace HO236 := zsb HO236 hb; replace BK213 := Aside0.mk (blk_below (g := gb213) (o := .cells #[.slice A0_0 l0_0.length c0_0] 24 (0, 0)) (by (with_reducible repeat (first | refine blk_drewN ?_ _ | refine blk_drew ?_ | refine blk_alloc ?_ _)); exact BK213.out) hb); replace BK214 := Aside0.mk (blk_below (g := gb214) (o := .cells #[.int .i64 a1_0, .int .i64 a1_1, .int .i64 a1_2, .int .i64 a1_3, .int .i64 a1_4, .int .i64 a1_5] 28 (0, 0)) (by (with_reducible repeat (first | refine blk_drewN ?_ _ | refine blk_drew ?_ | refine blk_alloc ?_ _)); exact BK214.out) hb); replace BK233 := Aside0.mk (blk_below (g := gb233) (o := .cells #[.int .i64 t226, .int .i64 t227, .int .i64 t228, .int .i64 t229, .int .i64 t230, .int .i64 t231] 36 (0, 0)) (by (with_reducible repeat (first | refine blk_drewN ?_ _ | refine blk_drew ?_ | refine blk_alloc ?_ _)); exact BK233.out) hb); replace HB := Aside0.mk (below_step (by repeat (first | (with_reducible first | exact HB.out | apply below_alloc | apply pw_below_drewN | apply below_drew1 | refine below_set ?_ GE213.out | refine below_set ?_ GE214.out | refine below_set ?_ GE233.out) | exact HB.out)) hb); clear hb hbox hg; obtain ⟨Ao45, co45, eo45⟩ := Kd.S_slice HO236.out; subst eo45; have hnb46 := NB237_213.out; have hnc46 := NB213_237.out; have hnb47 := NB237_214.out; have hnc47 := NB214_237.out; have hnb48 := NB237_233.out; have hnc48 := NB233_237.out; have hcz49_0 : w44.cell? ⟨gb237, 0, none⟩ = some (.slice none 0 0) := zc0 BK237 0 rfl; have hfz49_0 := blk_frozen BK237.out 0))
      have n0_ : Aside0 (Kd.S (Kd.slice 5 (Kd.int .u8)) 65 (w44.setCell ⟨gb237, 0, none⟩ (.slice Ao45 t234.length co45)) w.heap.size (fun k_ => some k_ ≠ (.slice Ao45 t234.length co45 : Value).ownBlock) v217 t216) := ⟨by (with_reducible repeat (first | apply Kd.S_alloc | apply Kd.S_drewN | apply Kd.S_drew)); exact Kd.S_mono (Kd.S_far (p := ⟨gb237, 0, none⟩) (Kd.S_types HO218.out BK237.out (by decide)) (fun _ hk => hk.2) (.slice Ao45 t234.length co45)) (fun _ hk => hk.1.2)⟩
      have n1_ : Aside0 (Kd.S (Kd.slice 5 (Kd.int .u8)) 65 (w44.setCell ⟨gb237, 0, none⟩ (.slice Ao45 t234.length co45)) w.heap.size (fun k_ => some k_ ≠ (v217 : Value).ownBlock) (.slice Ao45 t234.length co45) t234) := ⟨by (with_reducible repeat (first | apply Kd.S_alloc | apply Kd.S_drewN | apply Kd.S_drew)); exact Kd.S_mono (Kd.S_far (p := ⟨gb237, 0, none⟩) (Kd.S_types HO236.out BK237.out (by decide)) (fun _ hk => hk.2) (.slice Ao45 t234.length co45)) (fun _ hk => hk.1.2)⟩
      have n2_ : Aside0 ((w44.setCell ⟨gb237, 0, none⟩ (.slice Ao45 t234.length co45)).heap[gb213]? = some (.cells #[.slice A0_0 l0_0.length c0_0] 24 (0, 0))) := ⟨by (with_reducible repeat (first | refine blk_drewN ?_ _ | refine blk_drew ?_ | refine blk_alloc ?_ _)); refine blk_far ?_ NB213_237.out _; (with_reducible repeat (first | refine blk_drewN ?_ _ | refine blk_drew ?_ | refine blk_alloc ?_ _)); exact BK213.out⟩
      have n3_ : Aside0 ((w44.setCell ⟨gb237, 0, none⟩ (.slice Ao45 t234.length co45)).heap[gb214]? = some (.cells #[.int .i64 a1_0, .int .i64 a1_1, .int .i64 a1_2, .int .i64 a1_3, .int .i64 a1_4, .int .i64 a1_5] 28 (0, 0))) := ⟨by (with_reducible repeat (first | refine blk_drewN ?_ _ | refine blk_drew ?_ | refine blk_alloc ?_ _)); refine blk_far ?_ NB214_237.out _; (with_reducible repeat (first | refine blk_drewN ?_ _ | refine blk_drew ?_ | refine blk_alloc ?_ _)); exact BK214.out⟩
      have n4_ : Aside0 ((w44.setCell ⟨gb237, 0, none⟩ (.slice Ao45 t234.length co45)).heap[gb233]? = some (.cells #[.int .i64 t226, .int .i64 t227, .int .i64 t228, .int .i64 t229, .int .i64 t230, .int .i64 t231] 36 (0, 0))) := ⟨by (with_reducible repeat (first | refine blk_drewN ?_ _ | refine blk_drew ?_ | refine blk_alloc ?_ _)); refine blk_far ?_ NB233_237.out _; (with_reducible repeat (first | refine blk_drewN ?_ _ | refine blk_drew ?_ | refine blk_alloc ?_ _)); exact BK233.out⟩
      have n5_ : Aside0 ((w44.setCell ⟨gb237, 0, none⟩ (.slice Ao45 t234.length co45)).heap[gb237]? = some (.cells #[.slice Ao45 t234.length co45] 32 (0, 0))) := ⟨by (with_reducible repeat (first | refine blk_drewN ?_ _ | refine blk_drew ?_ | refine blk_alloc ?_ _)); refine blk_put (cs := #[.slice none 0 0]) ?_ 0 _ rfl; (with_reducible repeat (first | refine blk_drewN ?_ _ | refine blk_drew ?_ | refine blk_alloc ?_ _)); exact BK237.out⟩
      have n6_ : Aside0 (Below w.heap.size w (w44.setCell ⟨gb237, 0, none⟩ (.slice Ao45 t234.length co45))) := ⟨by repeat (first | (with_reducible first | exact HB.out | apply below_alloc | apply pw_below_drewN | apply below_drew1 | refine below_set ?_ GE213.out | refine below_set ?_ GE214.out | refine below_set ?_ GE233.out | refine below_set ?_ GE237.out) | exact HB.out)⟩
      (try clear HO218)
      (try clear HO236)
      (try clear BK213)
      (try clear BK214)
      (try clear BK233)
      (try clear BK237)
      (try clear HB)
      generalize (w44.setCell ⟨gb237, 0, none⟩ (.slice Ao45 t234.length co45)) = w50 at n0_ n1_ n2_ n3_ n4_ n5_ n6_ ⊢
      have HO218 := n0_
      have HO236 := n1_
      have BK213 := n2_
      have BK214 := n3_
      have BK233 := n4_
      have BK237 := n5_
      have HB := n6_
      clear n0_ n1_ n2_ n3_ n4_ n5_ n6_
      replace HO218 := Aside0.mk (Kd.S_drew HO218.out)
      replace HO236 := Aside0.mk (Kd.S_drew HO236.out)
      replace BK213 := Aside0.mk (blk_drew BK213.out)
      replace BK214 := Aside0.mk (blk_drew BK214.out)
      replace BK233 := Aside0.mk (blk_drew BK233.out)
      replace BK237 := Aside0.mk (blk_drew BK237.out)
      replace HB := Aside0.mk (below_drew1 HB.out)
      refine start_ (n := 12) (S := fun w' => w'.cell? ⟨gb237, 0, none⟩ = some (.slice Ao45 t234.length co45) ∧ w'.cell? ⟨gb214, 0, none⟩ = some (.int .i64 a1_0) ∧ w'.cell? ⟨gb214, 1, none⟩ = some (.int .i64 a1_1) ∧ w'.cell? ⟨gb214, 2, none⟩ = some (.int .i64 a1_2) ∧ w'.cell? ⟨gb214, 3, none⟩ = some (.int .i64 a1_3) ∧ w'.cell? ⟨gb214, 4, none⟩ = some (.int .i64 a1_4) ∧ w'.cell? ⟨gb214, 5, none⟩ = some (.int .i64 a1_5)) (ds := []) #[false, false, false, false, false, false, false, false, false, false, false, false] (by kernel_rfl) rfl rfl ⟨zc0 BK237 0 rfl, zc0 BK214 0 rfl, zc0 BK214 1 rfl, zc0 BK214 2 rfl, zc0 BK214 3 rfl, zc0 BK214 4 rfl, zc0 BK214 5 rfl⟩ (fun hHeld => ?_); refine with_tabW laws_FnExactPopBack.tab7 laws_FnExactPopBack.bits7 (fun HT_ HW_ => ?_)
      generalize w50.drew = w51 at HO218 HO236 BK213 BK214 BK233 BK237 HB hHeld ⊢
      refine take_ (i := 0) (N := some 30) (v := ?_) (a' := ?_) #[true, false, false, false, false, false, false, false, false, false, false, false] rfl rfl (take_ofW HT_.out HW_.out (by kernel_rfl)) (fun _ _ _ h => h) (Or.inl ⟨by rfl, ?_⟩) hHeld ?_ ?_
      rotate_left
      ·rintro w' ⟨s0, s1, s2, s3, s4, s5, s6⟩
       go_simp
       with_reducible rfl
      rotate_left
      ·simp only [Act.put, zp1, zp2, zp3, i64_w, i32_w]
       rfl
      refine take_ (i := 1) (N := some 31) (v := ?_) (a' := ?_) #[true, true, false, false, false, false, false, false, false, false, false, false] rfl rfl (take_ofW HT_.out HW_.out (by kernel_rfl)) (fun _ _ _ h => h) (Or.inl ⟨by rfl, ?_⟩) hHeld ?_ ?_
      rotate_left
      ·rintro w' ⟨s0, s1, s2, s3, s4, s5, s6⟩
       go_simp
       with_reducible rfl
      rotate_left
      ·simp only [Act.put, zp1, zp2, zp3, i64_w, i32_w]
       rfl
      refine join_ (σ := Nat) 3 #[true, true, true, true, true, true, true, true, true, false, false, false] (fun s_ => [(32, .agg #[.int .i64 t238, .int .i64 t239, .int .i64 t240, .int .i64 t241, .int .i64 t242, .int .i64 t243]), (33, .tuple #[.int .u8 t244, .agg #[.int .i64 t245, .int .i64 t246, .int .i64 t247, .int .i64 t248, .int .i64 t249, .int .i64 t250], .bool t251]), (11, .pointer (some ⟨s_, 0, none⟩)), (29, .tuple #[.int .u8 t244, .agg #[.int .i64 t245, .int .i64 t246, .int .i64 t247, .int .i64 t248, .int .i64 t249, .int .i64 t250], .bool t251]), (34, .int .u8 t244), (35, .agg #[.int .i64 t245, .int .i64 t246, .int .i64 t247, .int .i64 t248, .int .i64 t249, .int .i64 t250]), (36, .bool t251)]) (fun s_ w' => (w'.cell? ⟨gb237, 0, none⟩ = some (.slice Ao45 t234.length co45) ∧ w'.cell? ⟨gb214, 0, none⟩ = some (.int .i64 a1_0) ∧ w'.cell? ⟨gb214, 1, none⟩ = some (.int .i64 a1_1) ∧ w'.cell? ⟨gb214, 2, none⟩ = some (.int .i64 a1_2) ∧ w'.cell? ⟨gb214, 3, none⟩ = some (.int .i64 a1_3) ∧ w'.cell? ⟨gb214, 4, none⟩ = some (.int .i64 a1_4) ∧ w'.cell? ⟨gb214, 5, none⟩ = some (.int .i64 a1_5)) ∧ (Kd.S (Kd.slice 5 (Kd.int .u8)) 65 w' w.heap.size (fun k_ => some k_ ≠ (.slice Ao45 t234.length co45 : Value).ownBlock) v217 t216) ∧ (Kd.S (Kd.slice 5 (Kd.int .u8)) 65 w' w.heap.size (fun k_ => some k_ ≠ (v217 : Value).ownBlock) (.slice Ao45 t234.length co45) t234) ∧ (w'.heap[gb213]? = some (.cells #[.slice A0_0 l0_0.length c0_0] 24 (0, 0))) ∧ (w'.heap[gb214]? = some (.cells #[.int .i64 a1_0, .int .i64 a1_1, .int .i64 a1_2, .int .i64 a1_3, .int .i64 a1_4, .int .i64 a1_5] 28 (0, 0))) ∧ (w'.heap[gb233]? = some (.cells #[.int .i64 t226, .int .i64 t227, .int .i64 t228, .int .i64 t229, .int .i64 t230, .int .i64 t231] 36 (0, 0))) ∧ (w'.heap[gb237]? = some (.cells #[.slice Ao45 t234.length co45] 32 (0, 0))) ∧ (w'.heap[s_]? = some (.cells #[.int .i64 0, .int .i64 0, .int .i64 0, .int .i64 0, .int .i64 0, .int .i64 0] 36 (0, 0))) ∧ (w.heap.size ≤ s_) ∧ (w.heap.size ≤ s_) ∧ (gb213 ≠ s_) ∧ (s_ ≠ gb213) ∧ (gb214 ≠ s_) ∧ (s_ ≠ gb214) ∧ (gb233 ≠ s_) ∧ (s_ ≠ gb233) ∧ (gb237 ≠ s_) ∧ (s_ ≠ gb237) ∧ (Below w.heap.size w w')) ?_ ?_
      rotate_left
      ·intro hCont
       refine two_ (i := 2) (j := 8) (Ni := some 32) (Nj := some 11) #[true, true, true, false, false, false, false, false, false, false, false, false] #[true, true, false, false, false, false, false, false, true, false, false, false] rfl rfl rfl rfl (two_of HT_.out (by kernel_rfl)) (by decide) (by decide) (fun K hK => ?_) (fun K hK => ?_)
       ·skip
        refine goes_ Try.func17 (by kernel_rfl) rfl #[.agg #[.int .i64 a1_0, .int .i64 a1_1, .int .i64 a1_2, .int .i64 a1_3, .int .i64 a1_4, .int .i64 a1_5]] (by rfl) rfl rfl (by (try simp only [List.map_toArray, List.map_cons, List.map_nil]); first | done | rfl | (simp only [List.length_drop, List.length_take]; rfl)) ?_
        with_reducible refine (laws_toRing.calls a1_0 a1_1 a1_2 a1_3 a1_4 a1_5 t238 t239 t240 t241 t242 t243 _ A14.out).mono ?_
        rintro e w52 ⟨rfl, hb⟩
        refine ⟨_, rfl, ?_⟩
        replace HO218 := zsb HO218 hb
        replace HO236 := zsb HO236 hb
        replace BK213 := zb0 BK213 hb
        replace BK214 := zb0 BK214 hb
        replace BK233 := zb0 BK233 hb
        replace BK237 := zb0 BK237 hb
        replace HB := zhs HB hb
        (try clear hb)
        (try clear hb2)
        (try clear hk)
        (try clear hi)
        refine hK.out _ _ ⟨zc0 BK237 0 rfl, zc0 BK214 0 rfl, zc0 BK214 1 rfl, zc0 BK214 2 rfl, zc0 BK214 3 rfl, zc0 BK214 4 rfl, zc0 BK214 5 rfl⟩ (fun hHeld => ?_)
        clear hK K
        refine norm_ (a' := ?_) ?_ ?_
        rotate_left
        ·show Act.put _ (some 32) _ = _
         simp only [Act.put, zp1, zp2, zp3, i64_w, i32_w]
         rfl
        refine two_ (i := 3) (j := 8) (Ni := some 33) (Nj := some 11) #[true, true, true, true, false, false, false, false, false, false, false, false] #[true, true, true, false, false, false, false, false, true, false, false, false] rfl rfl rfl rfl (two_of HT_.out (by kernel_rfl)) (by decide) (by decide) (fun K hK => ?_) (fun K hK => ?_)
        ·skip
         refine goes_ Try.func37 (by kernel_rfl) rfl #[.agg #[.slice Ao45 t234.length co45], .agg #[.int .i64 t238, .int .i64 t239, .int .i64 t240, .int .i64 t241, .int .i64 t242, .int .i64 t243]] (by rfl) rfl rfl (by (try simp only [List.map_toArray, List.map_cons, List.map_nil]); first | done | rfl | (simp only [List.length_drop, List.length_take]; rfl)) ?_
         with_reducible refine (impl_PopBack.calls k _ _ t234 t238 t239 t240 t241 t242 t243 t244 t245 t246 t247 t248 t249 t250 t251 _ ?side1 ?side2 A15.out).mono ?_
         (case side1 => repeat (first | exact (Kd.S_reads' HO236.out).2.2 | (with_reducible refine Kd.C_alloc ?_ _) | (with_reducible refine Kd.C_drewN ?_ _) | (with_reducible refine Kd.C_drew ?_)))
         (case side2 => exact (Kd.S_reads' HO236.out).2.1)
         rintro e w53 ⟨rfl, hb⟩
         refine ⟨_, rfl, ?_⟩
         replace HO218 := zsb HO218 hb
         replace HO236 := zsb HO236 hb
         replace BK213 := zb0 BK213 hb
         replace BK214 := zb0 BK214 hb
         replace BK233 := zb0 BK233 hb
         replace BK237 := zb0 BK237 hb
         replace HB := zhs HB hb
         (try clear hb)
         (try clear hb2)
         (try clear hk)
         (try clear hi)
         refine hK.out _ _ ⟨zc0 BK237 0 rfl, zc0 BK214 0 rfl, zc0 BK214 1 rfl, zc0 BK214 2 rfl, zc0 BK214 3 rfl, zc0 BK214 4 rfl, zc0 BK214 5 rfl⟩ (fun hHeld => ?_)
         clear hK K
         refine norm_ (a' := ?_) ?_ ?_
         rotate_left
         ·show Act.put _ (some 33) _ = _
          simp only [Act.put, zp1, zp2, zp3, i64_w, i32_w]
          rfl
         refine pure_ (i := 4) (N := some 29) (v := ?_) (a' := ?_) #[true, true, true, true, true, false, false, false, false, false, false, false] rfl rfl (any_of HT_.out (by kernel_rfl)) (fun _ _ _ h => h) (Or.inl ⟨by rfl, ?_⟩) ?_ ?_
         rotate_left
         ·intro w'
          go_simp
          with_reducible rfl
         rotate_left
         ·simp only [Act.put, zp1, zp2, zp3, i64_w, i32_w]
          rfl
         refine pure_ (i := 5) (N := some 34) (v := ?_) (a' := ?_) #[true, true, true, true, true, true, false, false, false, false, false, false] rfl rfl (any_of HT_.out (by kernel_rfl)) (fun _ _ _ h => h) (Or.inl ⟨by rfl, ?_⟩) ?_ ?_
         rotate_left
         ·intro w'
          go_simp
          with_reducible rfl
         rotate_left
         ·simp only [Act.put, zp1, zp2, zp3, i64_w, i32_w]
          rfl
         refine pure_ (i := 6) (N := some 35) (v := ?_) (a' := ?_) #[true, true, true, true, true, true, true, false, false, false, false, false] rfl rfl (any_of HT_.out (by kernel_rfl)) (fun _ _ _ h => h) (Or.inl ⟨by rfl, ?_⟩) ?_ ?_
         rotate_left
         ·intro w'
          go_simp
          with_reducible rfl
         rotate_left
         ·simp only [Act.put, zp1, zp2, zp3, i64_w, i32_w]
          rfl
         refine pure_ (i := 7) (N := some 36) (v := ?_) (a' := ?_) #[true, true, true, true, true, true, true, true, false, false, false, false] rfl rfl (any_of HT_.out (by kernel_rfl)) (fun _ _ _ h => h) (Or.inl ⟨by rfl, ?_⟩) ?_ ?_
         rotate_left
         ·intro w'
          go_simp
          with_reducible rfl
         rotate_left
         ·simp only [Act.put, zp1, zp2, zp3, i64_w, i32_w]
          rfl
         refine one_ (i := 8) (N := some 11) #[true, true, true, true, true, true, true, true, true, false, false, false] rfl rfl (one_of HT_.out (by kernel_rfl)) (by decide) (fun K hK => ?_)
         refine box_step ?hg (N := 11) ?hd (cs := #[.int .i64 0, .int .i64 0, .int .i64 0, .int .i64 0, .int .i64 0, .int .i64 0]) (t := 36) ?hr ?_; (case hd => rfl); (case hg => rfl); (case hr => first | (go_simp; done) | (go_simp; rfl))
         intro gb252 hg w54 hbox hb
         have BK252 := Aside0.mk (hbox)
         have GW252 := zge HB hg
         have GE252 := zge HB hg
         have NB213_252 := znl BK213 hg
         have NB252_213 := znr BK213 hg
         have NB214_252 := znl BK214 hg
         have NB252_214 := znr BK214 hg
         have NB233_252 := znl BK233 hg
         have NB252_233 := znr BK233 hg
         have NB237_252 := znl BK237 hg
         have NB252_237 := znr BK237 hg
         replace HO218 := zsb HO218 hb
         replace HO236 := zsb HO236 hb
         replace BK213 := zb0 BK213 hb
         replace BK214 := zb0 BK214 hb
         replace BK233 := zb0 BK233 hb
         replace BK237 := zb0 BK237 hb
         replace HB := zhs HB hb
         clear hb hbox hg
         refine hK.out _ _ ⟨zc0 BK237 0 rfl, zc0 BK214 0 rfl, zc0 BK214 1 rfl, zc0 BK214 2 rfl, zc0 BK214 3 rfl, zc0 BK214 4 rfl, zc0 BK214 5 rfl⟩ (fun hHeld => ?_)
         clear hK K
         refine norm_ (a' := ?_) ?_ ?_
         rotate_left
         ·show Act.put _ (some 11) _ = _
          simp only [Act.put, zp1, zp2, zp3, i64_w, i32_w]
          rfl
         exact norm_ (by simp only [putAll, Act.put, zp1, zp2, zp3]) (hCont (gb252) _ ⟨hHeld, (zs0 HO218), (zs0 HO236), (zk0 BK213), (zk0 BK214), (zk0 BK233), (zk0 BK237), (zk0 BK252), GW252.out, GE252.out, NB213_252.out, NB252_213.out, NB214_252.out, NB252_214.out, NB233_252.out, NB252_233.out, NB237_252.out, NB252_237.out, (zh0 HB)⟩)
        ·skip
         refine box_step ?hg (N := 11) ?hd (cs := #[.int .i64 0, .int .i64 0, .int .i64 0, .int .i64 0, .int .i64 0, .int .i64 0]) (t := 36) ?hr ?_; (case hd => rfl); (case hg => rfl); (case hr => first | (go_simp; done) | (go_simp; rfl))
         intro gb252 hg w53 hbox hb
         have BK252 := Aside0.mk (hbox)
         have GW252 := zge HB hg
         have GE252 := zge HB hg
         have NB213_252 := znl BK213 hg
         have NB252_213 := znr BK213 hg
         have NB214_252 := znl BK214 hg
         have NB252_214 := znr BK214 hg
         have NB233_252 := znl BK233 hg
         have NB252_233 := znr BK233 hg
         have NB237_252 := znl BK237 hg
         have NB252_237 := znr BK237 hg
         replace HO218 := zsb HO218 hb
         replace HO236 := zsb HO236 hb
         replace BK213 := zb0 BK213 hb
         replace BK214 := zb0 BK214 hb
         replace BK233 := zb0 BK233 hb
         replace BK237 := zb0 BK237 hb
         replace HB := zhs HB hb
         clear hb hbox hg
         refine hK.out _ _ ⟨zc0 BK237 0 rfl, zc0 BK214 0 rfl, zc0 BK214 1 rfl, zc0 BK214 2 rfl, zc0 BK214 3 rfl, zc0 BK214 4 rfl, zc0 BK214 5 rfl⟩ (fun hHeld => ?_)
         clear hK K
         refine norm_ (a' := ?_) ?_ ?_
         rotate_left
         ·show Act.put _ (some 11) _ = _
          simp only [Act.put, zp1, zp2, zp3, i64_w, i32_w]
          rfl
         refine one_ (i := 3) (N := some 33) #[true, true, true, true, false, false, false, false, true, false, false, false] rfl rfl (one_of HT_.out (by kernel_rfl)) (by decide) (fun K hK => ?_)
         refine goes_ Try.func37 (by kernel_rfl) rfl #[.agg #[.slice Ao45 t234.length co45], .agg #[.int .i64 t238, .int .i64 t239, .int .i64 t240, .int .i64 t241, .int .i64 t242, .int .i64 t243]] (by rfl) rfl rfl (by (try simp only [List.map_toArray, List.map_cons, List.map_nil]); first | done | rfl | (simp only [List.length_drop, List.length_take]; rfl)) ?_
         with_reducible refine (impl_PopBack.calls k _ _ t234 t238 t239 t240 t241 t242 t243 t244 t245 t246 t247 t248 t249 t250 t251 _ ?side1 ?side2 A15.out).mono ?_
         (case side1 => repeat (first | exact (Kd.S_reads' HO236.out).2.2 | (with_reducible refine Kd.C_alloc ?_ _) | (with_reducible refine Kd.C_drewN ?_ _) | (with_reducible refine Kd.C_drew ?_)))
         (case side2 => exact (Kd.S_reads' HO236.out).2.1)
         rintro e w54 ⟨rfl, hb⟩
         refine ⟨_, rfl, ?_⟩
         replace HO218 := zsb HO218 hb
         replace HO236 := zsb HO236 hb
         replace BK213 := zb0 BK213 hb
         replace BK214 := zb0 BK214 hb
         replace BK233 := zb0 BK233 hb
         replace BK237 := zb0 BK237 hb
         replace BK252 := zb0 BK252 hb
         replace HB := zhs HB hb
         (try clear hb)
         (try clear hb2)
         (try clear hk)
         (try clear hi)
         refine hK.out _ _ ⟨zc0 BK237 0 rfl, zc0 BK214 0 rfl, zc0 BK214 1 rfl, zc0 BK214 2 rfl, zc0 BK214 3 rfl, zc0 BK214 4 rfl, zc0 BK214 5 rfl⟩ (fun hHeld => ?_)
         clear hK K
         refine norm_ (a' := ?_) ?_ ?_
         rotate_left
         ·show Act.put _ (some 33) _ = _
          simp only [Act.put, zp1, zp2, zp3, i64_w, i32_w]
          rfl
         refine pure_ (i := 4) (N := some 29) (v := ?_) (a' := ?_) #[true, true, true, true, true, false, false, false, true, false, false, false] rfl rfl (any_of HT_.out (by kernel_rfl)) (fun _ _ _ h => h) (Or.inl ⟨by rfl, ?_⟩) ?_ ?_
         rotate_left
         ·intro w'
          go_simp
          with_reducible rfl
         rotate_left
         ·simp only [Act.put, zp1, zp2, zp3, i64_w, i32_w]
          rfl
         refine pure_ (i := 5) (N := some 34) (v := ?_) (a' := ?_) #[true, true, true, true, true, true, false, false, true, false, false, false] rfl rfl (any_of HT_.out (by kernel_rfl)) (fun _ _ _ h => h) (Or.inl ⟨by rfl, ?_⟩) ?_ ?_
         rotate_left
         ·intro w'
          go_simp
          with_reducible rfl
         rotate_left
         ·simp only [Act.put, zp1, zp2, zp3, i64_w, i32_w]
          rfl
         refine pure_ (i := 6) (N := some 35) (v := ?_) (a' := ?_) #[true, true, true, true, true, true, true, false, true, false, false, false] rfl rfl (any_of HT_.out (by kernel_rfl)) (fun _ _ _ h => h) (Or.inl ⟨by rfl, ?_⟩) ?_ ?_
         rotate_left
         ·intro w'
          go_simp
          with_reducible rfl
         rotate_left
         ·simp only [Act.put, zp1, zp2, zp3, i64_w, i32_w]
          rfl
         refine pure_ (i := 7) (N := some 36) (v := ?_) (a' := ?_) #[true, true, true, true, true, true, true, true, true, false, false, false] rfl rfl (any_of HT_.out (by kernel_rfl)) (fun _ _ _ h => h) (Or.inl ⟨by rfl, ?_⟩) ?_ ?_
         rotate_left
         ·intro w'
          go_simp
          with_reducible rfl
         rotate_left
         ·simp only [Act.put, zp1, zp2, zp3, i64_w, i32_w]
          rfl
         exact norm_ (by simp only [putAll, Act.put, zp1, zp2, zp3]) (hCont (gb252) _ ⟨hHeld, (zs0 HO218), (zs0 HO236), (zk0 BK213), (zk0 BK214), (zk0 BK233), (zk0 BK237), (zk0 BK252), GW252.out, GE252.out, NB213_252.out, NB252_213.out, NB214_252.out, NB252_214.out, NB233_252.out, NB252_233.out, NB237_252.out, NB252_237.out, (zh0 HB)⟩)
       ·skip
        refine box_step ?hg (N := 11) ?hd (cs := #[.int .i64 0, .int .i64 0, .int .i64 0, .int .i64 0, .int .i64 0, .int .i64 0]) (t := 36) ?hr ?_; (case hd => rfl); (case hg => rfl); (case hr => first | (go_simp; done) | (go_simp; rfl))
        intro gb252 hg w52 hbox hb
        have BK252 := Aside0.mk (hbox)
        have GW252 := zge HB hg
        have GE252 := zge HB hg
        have NB213_252 := znl BK213 hg
        have NB252_213 := znr BK213 hg
        have NB214_252 := znl BK214 hg
        have NB252_214 := znr BK214 hg
        have NB233_252 := znl BK233 hg
        have NB252_233 := znr BK233 hg
        have NB237_252 := znl BK237 hg
        have NB252_237 := znr BK237 hg
        replace HO218 := zsb HO218 hb
        replace HO236 := zsb HO236 hb
        replace BK213 := zb0 BK213 hb
        replace BK214 := zb0 BK214 hb
        replace BK233 := zb0 BK233 hb
        replace BK237 := zb0 BK237 hb
        replace HB := zhs HB hb
        clear hb hbox hg
        refine hK.out _ _ ⟨zc0 BK237 0 rfl, zc0 BK214 0 rfl, zc0 BK214 1 rfl, zc0 BK214 2 rfl, zc0 BK214 3 rfl, zc0 BK214 4 rfl, zc0 BK214 5 rfl⟩ (fun hHeld => ?_)
        clear hK K
        refine norm_ (a' := ?_) ?_ ?_
        rotate_left
        ·show Act.put _ (some 11) _ = _
         simp only [Act.put, zp1, zp2, zp3, i64_w, i32_w]
         rfl
        refine one_ (i := 2) (N := some 32) #[true, true, true, false, false, false, false, false, true, false, false, false] rfl rfl (one_of HT_.out (by kernel_rfl)) (by decide) (fun K hK => ?_)
        refine goes_ Try.func17 (by kernel_rfl) rfl #[.agg #[.int .i64 a1_0, .int .i64 a1_1, .int .i64 a1_2, .int .i64 a1_3, .int .i64 a1_4, .int .i64 a1_5]] (by rfl) rfl rfl (by (try simp only [List.map_toArray, List.map_cons, List.map_nil]); first | done | rfl | (simp only [List.length_drop, List.length_take]; rfl)) ?_
        with_reducible refine (laws_toRing.calls a1_0 a1_1 a1_2 a1_3 a1_4 a1_5 t238 t239 t240 t241 t242 t243 _ A14.out).mono ?_
        rintro e w53 ⟨rfl, hb⟩
        refine ⟨_, rfl, ?_⟩
        replace HO218 := zsb HO218 hb
        replace HO236 := zsb HO236 hb
        replace BK213 := zb0 BK213 hb
        replace BK214 := zb0 BK214 hb
        replace BK233 := zb0 BK233 hb
        replace BK237 := zb0 BK237 hb
        replace BK252 := zb0 BK252 hb
        replace HB := zhs HB hb
        (try clear hb)
        (try clear hb2)
        (try clear hk)
        (try clear hi)
        refine hK.out _ _ ⟨zc0 BK237 0 rfl, zc0 BK214 0 rfl, zc0 BK214 1 rfl, zc0 BK214 2 rfl, zc0 BK214 3 rfl, zc0 BK214 4 rfl, zc0 BK214 5 rfl⟩ (fun hHeld => ?_)
        clear hK K
        refine norm_ (a' := ?_) ?_ ?_
        rotate_left
        ·show Act.put _ (some 32) _ = _
         simp only [Act.put, zp1, zp2, zp3, i64_w, i32_w]
         rfl
        refine one_ (i := 3) (N := some 33) #[true, true, true, true, false, false, false, false, true, false, false, false] rfl rfl (one_of HT_.out (by kernel_rfl)) (by decide) (fun K hK => ?_)
        refine goes_ Try.func37 (by kernel_rfl) rfl #[.agg #[.slice Ao45 t234.length co45], .agg #[.int .i64 t238, .int .i64 t239, .int .i64 t240, .int .i64 t241, .int .i64 t242, .int .i64 t243]] (by rfl) rfl rfl (by (try simp only [List.map_toArray, List.map_cons, List.map_nil]); first | done | rfl | (simp only [List.length_drop, List.length_take]; rfl)) ?_
        with_reducible refine (impl_PopBack.calls k _ _ t234 t238 t239 t240 t241 t242 t243 t244 t245 t246 t247 t248 t249 t250 t251 _ ?side1 ?side2 A15.out).mono ?_
        (case side1 => repeat (first | exact (Kd.S_reads' HO236.out).2.2 | (with_reducible refine Kd.C_alloc ?_ _) | (with_reducible refine Kd.C_drewN ?_ _) | (with_reducible refine Kd.C_drew ?_)))
        (case side2 => exact (Kd.S_reads' HO236.out).2.1)
        rintro e w54 ⟨rfl, hb⟩
        refine ⟨_, rfl, ?_⟩
        replace HO218 := zsb HO218 hb
        replace HO236 := zsb HO236 hb
        replace BK213 := zb0 BK213 hb
        replace BK214 := zb0 BK214 hb
        replace BK233 := zb0 BK233 hb
        replace BK237 := zb0 BK237 hb
        replace BK252 := zb0 BK252 hb
        replace HB := zhs HB hb
        (try clear hb)
        (try clear hb2)
        (try clear hk)
        (try clear hi)
        refine hK.out _ _ ⟨zc0 BK237 0 rfl, zc0 BK214 0 rfl, zc0 BK214 1 rfl, zc0 BK214 2 rfl, zc0 BK214 3 rfl, zc0 BK214 4 rfl, zc0 BK214 5 rfl⟩ (fun hHeld => ?_)
        clear hK K
        refine norm_ (a' := ?_) ?_ ?_
        rotate_left
        ·show Act.put _ (some 33) _ = _
         simp only [Act.put, zp1, zp2, zp3, i64_w, i32_w]
         rfl
        refine pure_ (i := 4) (N := some 29) (v := ?_) (a' := ?_) #[true, true, true, true, true, false, false, false, true, false, false, false] rfl rfl (any_of HT_.out (by kernel_rfl)) (fun _ _ _ h => h) (Or.inl ⟨by rfl, ?_⟩) ?_ ?_
        rotate_left
        ·intro w'
         go_simp
         with_reducible rfl
        rotate_left
        ·simp only [Act.put, zp1, zp2, zp3, i64_w, i32_w]
         rfl
        refine pure_ (i := 5) (N := some 34) (v := ?_) (a' := ?_) #[true, true, true, true, true, true, false, false, true, false, false, false] rfl rfl (any_of HT_.out (by kernel_rfl)) (fun _ _ _ h => h) (Or.inl ⟨by rfl, ?_⟩) ?_ ?_
        rotate_left
        ·intro w'
         go_simp
         with_reducible rfl
        rotate_left
        ·simp only [Act.put, zp1, zp2, zp3, i64_w, i32_w]
         rfl
        refine pure_ (i := 6) (N := some 35) (v := ?_) (a' := ?_) #[true, true, true, true, true, true, true, false, true, false, false, false] rfl rfl (any_of HT_.out (by kernel_rfl)) (fun _ _ _ h => h) (Or.inl ⟨by rfl, ?_⟩) ?_ ?_
        rotate_left
        ·intro w'
         go_simp
         with_reducible rfl
        rotate_left
        ·simp only [Act.put, zp1, zp2, zp3, i64_w, i32_w]
         rfl
        refine pure_ (i := 7) (N := some 36) (v := ?_) (a' := ?_) #[true, true, true, true, true, true, true, true, true, false, false, false] rfl rfl (any_of HT_.out (by kernel_rfl)) (fun _ _ _ h => h) (Or.inl ⟨by rfl, ?_⟩) ?_ ?_
        rotate_left
        ·intro w'
         go_simp
         with_reducible rfl
        rotate_left
        ·simp only [Act.put, zp1, zp2, zp3, i64_w, i32_w]
         rfl
        exact norm_ (by simp only [putAll, Act.put, zp1, zp2, zp3]) (hCont (gb252) _ ⟨hHeld, (zs0 HO218), (zs0 HO236), (zk0 BK213), (zk0 BK214), (zk0 BK233), (zk0 BK237), (zk0 BK252), GW252.out, GE252.out, NB213_252.out, NB252_213.out, NB214_252.out, NB252_214.out, NB233_252.out, NB252_233.out, NB237_252.out, NB252_237.out, (zh0 HB)⟩)
      rintro gb252 w55 ⟨hS_, h0_, h1_, h2_, h3_, h4_, h5_, h6_, h7_, h8_, h9_, h10_, h11_, h12_, h13_, h14_, h15_, h16_, h17_⟩
      try dsimp only at hS_ h0_ h1_ h2_ h3_ h4_ h5_ h6_ h7_ h8_ h9_ h10_ h11_ h12_ h13_ h14_ h15_ h16_ h17_
      have BK252 := Aside0.mk h6_
      have GW252 := Aside0.mk h7_
      have GE252 := Aside0.mk h8_
      have NB213_252 := Aside0.mk h9_
      have NB252_213 := Aside0.mk h10_
      have NB214_252 := Aside0.mk h11_
      have NB252_214 := Aside0.mk h12_
      have NB233_252 := Aside0.mk h13_
      have NB252_233 := Aside0.mk h14_
      have NB237_252 := Aside0.mk h15_
      have NB252_237 := Aside0.mk h16_
      replace HO218 := Aside0.mk h0_
      replace HO236 := Aside0.mk h1_
      replace BK213 := Aside0.mk h2_
      replace BK214 := Aside0.mk h3_
      replace BK233 := Aside0.mk h4_
      replace BK237 := Aside0.mk h5_
      replace HB := Aside0.mk h17_
      clear h0_ h1_ h2_ h3_ h4_ h5_ h6_ h7_ h8_ h9_ h10_ h11_ h12_ h13_ h14_ h15_ h16_ h17_
      have hHeld := hS_
      refine norm_ (a' := ?_) ?_ ?_
      rotate_left
      ·simp only [putAll, Act.put, zp1, zp2, zp3]
       rfl
      refine pure_ (i := 9) (N := some 10) (v := ?_) (a' := ?_) #[true, true, true, true, true, true, true, true, true, true, false, false] rfl rfl (any_of HT_.out (by kernel_rfl)) (fun _ _ _ h => h) (Or.inl ⟨by rfl, ?_⟩) ?_ ?_
      rotate_left
      ·intro w'
       go_simp
       with_reducible rfl
      rotate_left
      ·simp only [Act.put, zp1, zp2, zp3, i64_w, i32_w]
       rfl
      refine one_ (i := 10) (N := none) #[true, true, true, true, true, true, true, true, true, true, true, false] rfl rfl (one_of HT_.out (by kernel_rfl)) (by decide) (fun K hK => ?_)
      have hs56 : w55.cell? ⟨gb252, 0, none⟩ = some (.int .i64 0) := zc0 BK252 0 rfl
      have hfs56 := blk_frozen BK252.out 0
      have hns56_0 := NB213_252.out
      have hns56_1 := NB214_252.out
      have hns56_2 := NB233_252.out
      have hns56_3 := NB237_252.out
      have hms56_0 := NB252_213.out
      have hms56_1 := NB252_214.out
      have hms56_2 := NB252_233.out
      have hms56_3 := NB252_237.out
      have hs57 : w55.cell? ⟨gb252, 1, none⟩ = some (.int .i64 0) := zc0 BK252 1 rfl
      have hfs57 := blk_frozen BK252.out 1
      have hns57_0 := NB213_252.out
      have hns57_1 := NB214_252.out
      have hns57_2 := NB233_252.out
      have hns57_3 := NB237_252.out
      have hms57_0 := NB252_213.out
      have hms57_1 := NB252_214.out
      have hms57_2 := NB252_233.out
      have hms57_3 := NB252_237.out
      have hs58 : w55.cell? ⟨gb252, 2, none⟩ = some (.int .i64 0) := zc0 BK252 2 rfl
      have hfs58 := blk_frozen BK252.out 2
      have hns58_0 := NB213_252.out
      have hns58_1 := NB214_252.out
      have hns58_2 := NB233_252.out
      have hns58_3 := NB237_252.out
      have hms58_0 := NB252_213.out
      have hms58_1 := NB252_214.out
      have hms58_2 := NB252_233.out
      have hms58_3 := NB252_237.out
      have hs59 : w55.cell? ⟨gb252, 3, none⟩ = some (.int .i64 0) := zc0 BK252 3 rfl
      have hfs59 := blk_frozen BK252.out 3
      have hns59_0 := NB213_252.out
      have hns59_1 := NB214_252.out
      have hns59_2 := NB233_252.out
      have hns59_3 := NB237_252.out
      have hms59_0 := NB252_213.out
      have hms59_1 := NB252_214.out
      have hms59_2 := NB252_233.out
      have hms59_3 := NB252_237.out
      have hs60 : w55.cell? ⟨gb252, 4, none⟩ = some (.int .i64 0) := zc0 BK252 4 rfl
      have hfs60 := blk_frozen BK252.out 4
      have hns60_0 := NB213_252.out
      have hns60_1 := NB214_252.out
      have hns60_2 := NB233_252.out
      have hns60_3 := NB237_252.out
      have hms60_0 := NB252_213.out
      have hms60_1 := NB252_214.out
      have hms60_2 := NB252_233.out
      have hms60_3 := NB252_237.out
      have hs61 : w55.cell? ⟨gb252, 5, none⟩ = some (.int .i64 0) := zc0 BK252 5 rfl
      have hfs61 := blk_frozen BK252.out 5
      have hns61_0 := NB213_252.out
      have hns61_1 := NB214_252.out
      have hns61_2 := NB233_252.out
      have hns61_3 := NB237_252.out
      have hms61_0 := NB252_213.out
      have hms61_1 := NB252_214.out
      have hms61_2 := NB252_233.out
      have hms61_3 := NB252_237.out
      refine skip_ (w1 := ?_) (by rfl) rfl ?_ ?_
      rotate_left
      ·go_simp
       rfl
      refine hK.out _ _ ⟨((cell_far (p := ⟨gb252, _, none⟩) NB237_252.out _).trans (((cell_far (p := ⟨gb252, _, none⟩) NB237_252.out _).trans (((cell_far (p := ⟨gb252, _, none⟩) NB237_252.out _).trans (((cell_far (p := ⟨gb252, _, none⟩) NB237_252.out _).trans (((cell_far (p := ⟨gb252, _, none⟩) NB237_252.out _).trans (((cell_far (p := ⟨gb252, _, none⟩) NB237_252.out _).trans (hHeld.1)))))))))))), ((cell_far (p := ⟨gb252, _, none⟩) NB214_252.out _).trans (((cell_far (p := ⟨gb252, _, none⟩) NB214_252.out _).trans (((cell_far (p := ⟨gb252, _, none⟩) NB214_252.out _).trans (((cell_far (p := ⟨gb252, _, none⟩) NB214_252.out _).trans (((cell_far (p := ⟨gb252, _, none⟩) NB214_252.out _).trans (((cell_far (p := ⟨gb252, _, none⟩) NB214_252.out _).trans (hHeld.2.1)))))))))))), ((cell_far (p := ⟨gb252, _, none⟩) NB214_252.out _).trans (((cell_far (p := ⟨gb252, _, none⟩) NB214_252.out _).trans (((cell_far (p := ⟨gb252, _, none⟩) NB214_252.out _).trans (((cell_far (p := ⟨gb252, _, none⟩) NB214_252.out _).trans (((cell_far (p := ⟨gb252, _, none⟩) NB214_252.out _).trans (((cell_far (p := ⟨gb252, _, none⟩) NB214_252.out _).trans (hHeld.2.2.1)))))))))))), ((cell_far (p := ⟨gb252, _, none⟩) NB214_252.out _).trans (((cell_far (p := ⟨gb252, _, none⟩) NB214_252.out _).trans (((cell_far (p := ⟨gb252, _, none⟩) NB214_252.out _).trans (((cell_far (p := ⟨gb252, _, none⟩) NB214_252.out _).trans (((cell_far (p := ⟨gb252, _, none⟩) NB214_252.out _).trans (((cell_far (p := ⟨gb252, _, none⟩) NB214_252.out _).trans (hHeld.2.2.2.1)))))))))))), ((cell_far (p := ⟨gb252, _, none⟩) NB214_252.out _).trans (((cell_far (p := ⟨gb252, _, none⟩) NB214_252.out _).trans (((cell_far (p := ⟨gb252, _, none⟩) NB214_252.out _).trans (((cell_far (p := ⟨gb252, _, none⟩) NB214_252.out _).trans (((cell_far (p := ⟨gb252, _, none⟩) NB214_252.out _).trans (((cell_far (p := ⟨gb252, _, none⟩) NB214_252.out _).trans (hHeld.2.2.2.2.1)))))))))))), ((cell_far (p := ⟨gb252, _, none⟩) NB214_252.out _).trans (((cell_far (p := ⟨gb252, _, none⟩) NB214_252.out _).trans (((cell_far (p := ⟨gb252, _, none⟩) NB214_252.out _).trans (((cell_far (p := ⟨gb252, _, none⟩) NB214_252.out _).trans (((cell_far (p := ⟨gb252, _, none⟩) NB214_252.out _).trans (((cell_far (p := ⟨gb252, _, none⟩) NB214_252.out _).trans (hHeld.2.2.2.2.2.1)))))))))))), ((cell_far (p := ⟨gb252, _, none⟩) NB214_252.out _).trans (((cell_far (p := ⟨gb252, _, none⟩) NB214_252.out _).trans (((cell_far (p := ⟨gb252, _, none⟩) NB214_252.out _).trans (((cell_far (p := ⟨gb252, _, none⟩) NB214_252.out _).trans (((cell_far (p := ⟨gb252, _, none⟩) NB214_252.out _).trans (((cell_far (p := ⟨gb252, _, none⟩) NB214_252.out _).trans (hHeld.2.2.2.2.2.2))))))))))))⟩ (fun hHeld => ?_)
      clear hK K
      refine pure_ (i := 11) (N := some 12) (v := ?_) (a' := ?_) #[true, true, true, true, true, true, true, true, true, true, true, true] rfl rfl (any_of HT_.out (by kernel_rfl)) (fun _ _ _ h => h) (Or.inl ⟨by rfl, ?_⟩) ?_ ?_
      rotate_left
      ·intro w'
       go_simp
       with_reducible rfl
      rotate_left
      ·simp only [Act.put, zp1, zp2, zp3, i64_w, i32_w]
       rfl
      refine done_ (done_of HT_.out (by kernel_rfl)) ?_
      have hnb62 := NB252_213.out
      have hnc62 := NB213_252.out
      have hnb63 := NB252_214.out
      have hnc63 := NB214_252.out
      have hnb64 := NB252_233.out
      have hnc64 := NB233_252.out
      have hnb65 := NB252_237.out
      have hnc65 := NB237_252.out
      have hcz66_0 : w55.cell? ⟨gb252, 0, none⟩ = some (.int .i64 0) := zc0 BK252 0 rfl
      have hcz66_1 : w55.cell? ⟨gb252, 1, none⟩ = some (.int .i64 0) := zc0 BK252 1 rfl
      have hcz66_2 : w55.cell? ⟨gb252, 2, none⟩ = some (.int .i64 0) := zc0 BK252 2 rfl
      have hcz66_3 : w55.cell? ⟨gb252, 3, none⟩ = some (.int .i64 0) := zc0 BK252 3 rfl
      have hcz66_4 : w55.cell? ⟨gb252, 4, none⟩ = some (.int .i64 0) := zc0 BK252 4 rfl
      have hcz66_5 : w55.cell? ⟨gb252, 5, none⟩ = some (.int .i64 0) := zc0 BK252 5 rfl
      have hfz66_0 := blk_frozen BK252.out 0
      have hfz66_1 := blk_frozen BK252.out 1
      have hfz66_2 := blk_frozen BK252.out 2
      have hfz66_3 := blk_frozen BK252.out 3
      have hfz66_4 := blk_frozen BK252.out 4
      have hfz66_5 := blk_frozen BK252.out 5
      have hnb67 := NB233_214.out
      have hnc67 := NB214_233.out
      have hcz68_0 : w55.cell? ⟨gb233, 0, none⟩ = some (.int .i64 t226) := zc0 BK233 0 rfl
      have hcz68_1 : w55.cell? ⟨gb233, 1, none⟩ = some (.int .i64 t227) := zc0 BK233 1 rfl
      have hcz68_2 : w55.cell? ⟨gb233, 2, none⟩ = some (.int .i64 t228) := zc0 BK233 2 rfl
      have hcz68_3 : w55.cell? ⟨gb233, 3, none⟩ = some (.int .i64 t229) := zc0 BK233 3 rfl
      have hcz68_4 : w55.cell? ⟨gb233, 4, none⟩ = some (.int .i64 t230) := zc0 BK233 4 rfl
      have hcz68_5 : w55.cell? ⟨gb233, 5, none⟩ = some (.int .i64 t231) := zc0 BK233 5 rfl
      have hfz68_0 := blk_frozen BK233.out 0
      have hfz68_1 := blk_frozen BK233.out 1
      have hfz68_2 := blk_frozen BK233.out 2
      have hfz68_3 := blk_frozen BK233.out 3
      have hfz68_4 := blk_frozen BK233.out 4
      have hfz68_5 := blk_frozen BK233.out 5
      try go_wp2_with (first | (go_at_call 28; (with_reducible refine (laws_eqRing.calls t245 t246 t247 t248 t249 t250 t226 t227 t228 t229 t230 t231 true _ A17.out).mono ?_); rintro e w69 ⟨rfl, hb⟩; replace HO218 := Aside0.mk (Kd.S_below (by (with_reducible repeat (first | apply Kd.S_alloc | apply Kd.S_drewN | apply Kd.S_drew)); exact (Kd.S_mono (Kd.S_far (p := ⟨gb252, 5, none⟩) (Kd.S_far (p := ⟨gb252, 4, none⟩) (Kd.S_far (p := ⟨gb252, 3, none⟩) (Kd.S_far (p := ⟨gb252, 2, none⟩) (Kd.S_far (p := ⟨gb252, 1, none⟩) (Kd.S_far (p := ⟨gb252, 0, none⟩) (Kd.S_types HO218.out BK252.out (by decide)) (fun _ hk => hk.2) (.int .i64 t245)) (fun _ hk => hk.2) (.int .i64 t246)) (fun _ hk => hk.2) (.int .i64 t247)) (fun _ hk => hk.2) (.int .i64 t248)) (fun _ hk => hk.2) (.int .i64 t249)) (fun _ hk => hk.2) (.int .i64 t250)) (fun _ h_ => h_.1))) hb); replace HO236 := Aside0.mk (Kd.S_below (by (with_reducible repeat (first | apply Kd.S_alloc | apply Kd.S_drewN | apply Kd.S_drew)); exact (Kd.S_mono (Kd.S_far (p := ⟨gb252, 5, none⟩) (Kd.S_far (p := ⟨gb252, 4, none⟩) (Kd.S_far (p := ⟨gb252, 3, none⟩) (Kd.S_far (p := ⟨gb252, 2, none⟩) (Kd.S_far (p := ⟨gb252, 1, none⟩) (Kd.S_far (p := ⟨gb252, 0, none⟩) (Kd.S_types HO236.out BK252.out (by decide)) (fun _ hk => hk.2) (.int .i64 t245)) (fun _ hk => hk.2) (.int .i64 t246)) (fun _ hk => hk.2) (.int .i64 t247)) (fun _ hk => hk.2) (.int .i64 t248)) (fun _ hk => hk.2) (.int .i64 t249)) (fun _ hk => hk.2) (.int .i64 t250)) (fun _ h_ => h_.1))) hb); replace BK213 := Aside0.mk (blk_below (g := gb213) (o := .cells #[.slice A0_0 l0_0.length c0_0] 24 (0, 0)) (by (with_reducible repeat (first | refine blk_drewN ?_ _ | refine blk_drew ?_ | refine blk_alloc ?_ _)); refine blk_far ?_ NB213_252.out _; (with_reducible repeat (first | refine blk_drewN ?_ _ | refine blk_drew ?_ | refine blk_alloc ?_ _)); refine blk_far ?_ NB213_252.out _; (with_reducible repeat (first | refine blk_drewN ?_ _ | refine blk_drew ?_ | refine blk_alloc ?_ _)); refine blk_far ?_ NB213_252.out _; (with_reducible repeat (first | refine blk_drewN ?_ _ | refine blk_drew ?_ | refine blk_alloc ?_ _)); refine blk_far ?_ NB213_252.out _; (with_reducible repeat (first | refine blk_drewN ?_ _ | refine blk_drew ?_ | refine blk_alloc ?_ _)); refine blk_far ?_ NB213_252.out _; (with_reducible repeat (first | refine blk_drewN ?_ _ | refine blk_drew ?_ | refine blk_alloc ?_ _)); refine blk_far ?_ NB213_252.out _; (with_reducible repeat (first | refine blk_drewN ?_ _ | refine blk_drew ?_ | refine blk_alloc ?_ _)); exact BK213.out) hb); replace BK214 := Aside0.mk (blk_below (g := gb214) (o := .cells #[.int .i64 a1_0, .int .i64 a1_1, .int .i64 a1_2, .int .i64 a1_3, .int .i64 a1_4, .int .i64 a1_5] 28 (0, 0)) (by (with_reducible repeat (first | refine blk_drewN ?_ _ | refine blk_drew ?_ | refine blk_alloc ?_ _)); refine blk_far ?_ NB214_252.out _; (with_reducible repeat (first | refine blk_drewN ?_ _ | refine blk_drew ?_ | refine blk_alloc ?_ _)); refine blk_far ?_ NB214_252.out _; (with_reducible repeat (first | refine blk_drewN ?_ _ | refine blk_drew ?_ | refine blk_alloc ?_ _)); refine blk_far ?_ NB214_252.out _; (with_reducible repeat (first | refine blk_drewN ?_ _ | refine blk_drew ?_ | refine blk_alloc ?_ _)); refine blk_far ?_ NB214_252.out _; (with_reducible repeat (first | refine blk_drewN ?_ _ | refine blk_drew ?_ | refine blk_alloc ?_ _)); refine blk_far ?_ NB214_252.out _; (with_reducible repeat (first | refine blk_drewN ?_ _ | refine blk_drew ?_ | refine blk_alloc ?_ _)); refine blk_far ?_ NB214_252.out _; (with_reducible repeat (first | refine blk_drewN ?_ _ | refine blk_drew ?_ | refine blk_alloc ?_ _)); exact BK214.out) hb); replace BK233 := Aside0.mk (blk_below (g := gb233) (o := .cells #[.int .i64 t226, .int .i64 t227, .int .i64 t228, .int .i64 t229, .int .i64 t230, .int .i64 t231] 36 (0, 0)) (by (with_reducible repeat (first | refine blk_drewN ?_ _ | refine blk_drew ?_ | refine blk_alloc ?_ _)); refine blk_far ?_ NB233_252.out _; (with_reducible repeat (first | refine blk_drewN ?_ _ | refine blk_drew ?_ | refine blk_alloc ?_ _)); refine blk_far ?_ NB233_252.out _; (with_reducible repeat (first | refine blk_drewN ?_ _ | refine blk_drew ?_ | refine blk_alloc ?_ _)); refine blk_far ?_ NB233_252.out _; (with_reducible repeat (first | refine blk_drewN ?_ _ | refine blk_drew ?_ | refine blk_alloc ?_ _)); refine blk_far ?_ NB233_252.out _; (with_reducible repeat (first | refine blk_drewN ?_ _ | refine blk_drew ?_ | refine blk_alloc ?_ _)); refine blk_far ?_ NB233_252.out _; (with_reducible repeat (first | refine blk_drewN ?_ _ | refine blk_drew ?_ | refine blk_alloc ?_ _)); refine blk_far ?_ NB233_252.out _; (with_reducible repeat (first | refine blk_drewN ?_ _ | refine blk_drew ?_ | refine blk_alloc ?_ _)); exact BK233.out) hb); replace BK237 := Aside0.mk (blk_below (g := gb237) (o := .cells #[.slice Ao45 t234.length co45] 32 (0, 0)) (by (with_reducible repeat (first | refine blk_drewN ?_ _ | refine blk_drew ?_ | refine blk_alloc ?_ _)); refine blk_far ?_ NB237_252.out _; (with_reducible repeat (first | refine blk_drewN ?_ _ | refine blk_drew ?_ | refine blk_alloc ?_ _)); refine blk_far ?_ NB237_252.out _; (with_reducible repeat (first | refine blk_drewN ?_ _ | refine blk_drew ?_ | refine blk_alloc ?_ _)); refine blk_far ?_ NB237_252.out _; (with_reducible repeat (first | refine blk_drewN ?_ _ | refine blk_drew ?_ | refine blk_alloc ?_ _)); refine blk_far ?_ NB237_252.out _; (with_reducible repeat (first | refine blk_drewN ?_ _ | refine blk_drew ?_ | refine blk_alloc ?_ _)); refine blk_far ?_ NB237_252.out _; (with_reducible repeat (first | refine blk_drewN ?_ _ | refine blk_drew ?_ | refine blk_alloc ?_ _)); refine blk_far ?_ NB237_252.out _; (with_reducible repeat (first | refine blk_drewN ?_ _ | refine blk_drew ?_ | refine blk_alloc ?_ _)); exact BK237.out) hb); replace BK252 := Aside0.mk (blk_below (g := gb252) (o := .cells #[.int .i64 t245, .int .i64 t246, .int .i64 t247, .int .i64 t248, .int .i64 t249, .int .i64 t250] 36 (0, 0)) (by (with_reducible repeat (first | refine blk_drewN ?_ _ | refine blk_drew ?_ | refine blk_alloc ?_ _)); refine blk_put (cs := #[.int .i64 t245, .int .i64 t246, .int .i64 t247, .int .i64 t248, .int .i64 t249, .int .i64 0]) ?_ 5 _ rfl; (with_reducible repeat (first | refine blk_drewN ?_ _ | refine blk_drew ?_ | refine blk_alloc ?_ _)); refine blk_put (cs := #[.int .i64 t245, .int .i64 t246, .int .i64 t247, .int .i64 t248, .int .i64 0, .int .i64 0]) ?_ 4 _ rfl; (with_reducible repeat (first | refine blk_drewN ?_ _ | refine blk_drew ?_ | refine blk_alloc ?_ _)); refine blk_put (cs := #[.int .i64 t245, .int .i64 t246, .int .i64 t247, .int .i64 0, .int .i64 0, .int .i64 0]) ?_ 3 _ rfl; (with_reducible repeat (first | refine blk_drewN ?_ _ | refine blk_drew ?_ | refine blk_alloc ?_ _)); refine blk_put (cs := #[.int .i64 t245, .int .i64 t246, .int .i64 0, .int .i64 0, .int .i64 0, .int .i64 0]) ?_ 2 _ rfl; (with_reducible repeat (first | refine blk_drewN ?_ _ | refine blk_drew ?_ | refine blk_alloc ?_ _)); refine blk_put (cs := #[.int .i64 t245, .int .i64 0, .int .i64 0, .int .i64 0, .int .i64 0, .int .i64 0]) ?_ 1 _ rfl; (with_reducible repeat (first | refine blk_drewN ?_ _ | refine blk_drew ?_ | refine blk_alloc ?_ _)); refine blk_put (cs := #[.int .i64 0, .int .i64 0, .int .i64 0, .int .i64 0, .int .i64 0, .int .i64 0]) ?_ 0 _ rfl; (with_reducible repeat (first | refine blk_drewN ?_ _ | refine blk_drew ?_ | refine blk_alloc ?_ _)); exact BK252.out) hb); replace HB := Aside0.mk (below_step (by repeat (first | (with_reducible first | exact HB.out | apply below_alloc | apply pw_below_drewN | apply below_drew1 | refine below_set ?_ GE213.out | refine below_set ?_ GE214.out | refine below_set ?_ GE233.out | refine below_set ?_ GE237.out | refine below_set ?_ GE252.out) | exact HB.out)) hb); (try clear hb); (try clear hb2); (try clear hk); (try clear hi)))
      replace HO218 := Aside0.mk (Kd.S_drew HO218.out)
      replace HO236 := Aside0.mk (Kd.S_drew HO236.out)
      replace BK213 := Aside0.mk (blk_drew BK213.out)
      replace BK214 := Aside0.mk (blk_drew BK214.out)
      replace BK233 := Aside0.mk (blk_drew BK233.out)
      replace BK237 := Aside0.mk (blk_drew BK237.out)
      replace BK252 := Aside0.mk (blk_drew BK252.out)
      replace HB := Aside0.mk (below_drew1 HB.out)
      refine start_ (n := 5) (S := fun w' => w'.cell? ⟨gb237, 0, none⟩ = some (.slice Ao45 t234.length co45) ∧ w'.cell? ⟨gb213, 0, none⟩ = some (.slice A0_0 l0_0.length c0_0)) (ds := []) #[false, false, false, false, false] (by kernel_rfl) rfl rfl ⟨zc0 BK237 0 rfl, zc0 BK213 0 rfl⟩ (fun hHeld => ?_)
      generalize w69.drew = w70 at HO218 HO236 BK213 BK214 BK233 BK237 BK252 HB hHeld ⊢
      refine take_ (i := 0) (N := some 51) (v := ?_) (a' := ?_) #[true, false, false, false, false] rfl rfl (by kernel_rfl) (fun _ _ _ h => h) (Or.inl ⟨by rfl, ?_⟩) hHeld ?_ ?_
      rotate_left
      ·rintro w' ⟨s0, s1⟩
       go_simp
       with_reducible rfl
      rotate_left
      ·simp only [Act.put, zp1, zp2, zp3, i64_w, i32_w]
       rfl
      refine take_ (i := 1) (N := some 52) (v := ?_) (a' := ?_) #[true, true, false, false, false] rfl rfl (by kernel_rfl) (fun _ _ _ h => h) (Or.inl ⟨by rfl, ?_⟩) hHeld ?_ ?_
      rotate_left
      ·rintro w' ⟨s0, s1⟩
       go_simp
       with_reducible rfl
      rotate_left
      ·simp only [Act.put, zp1, zp2, zp3, i64_w, i32_w]
       rfl
      refine one_ (i := 2) (N := some 53) #[true, true, true, false, false] rfl rfl (by kernel_rfl) (by decide) (fun K hK => ?_)
      refine goes_ Try.func16 (by kernel_rfl) rfl #[.agg #[.slice A0_0 l0_0.length c0_0]] (by rfl) rfl rfl (by (try simp only [List.map_toArray, List.map_cons, List.map_nil]); first | done | rfl | (simp only [List.length_drop, List.length_take]; rfl)) ?_
      with_reducible refine (laws_toMemory.calls k _ _ l0_0 t254 _ ?side1 ?side2 A20.out).mono ?_
      (case side1 => repeat (first | exact (Kd.C_below HR0_0.out HB.out) | (with_reducible refine Kd.C_alloc ?_ _) | (with_reducible refine Kd.C_drewN ?_ _) | (with_reducible refine Kd.C_drew ?_)))
      (case side2 => exact HC0_0.out)
      rintro e w71 ⟨v255, rfl, ho0, hb⟩
      refine ⟨_, rfl, ?_⟩
      have HO256 := Aside0.mk (Kd.S_lower (Kd.S_new' (Kd.S_new' ho0 (Kd.S_lt (zs0 HO218))) (Kd.S_lt (zs0 HO236))) (below_size (zh0 HB)))
      replace HO218 := Aside0.mk (Kd.S_elder' (zs0 HO218) (Kd.S_base ho0) hb)
      replace HO236 := Aside0.mk (Kd.S_elder' (zs0 HO236) (Kd.S_base ho0) hb)
      replace BK213 := zb0 BK213 hb
      replace BK214 := zb0 BK214 hb
      replace BK233 := zb0 BK233 hb
      replace BK237 := zb0 BK237 hb
      replace BK252 := zb0 BK252 hb
      replace HB := zhs HB hb
      (try clear hb)
      (try clear hb2)
      (try clear hk)
      (try clear hi)
      (try clear ho0)
      obtain ⟨Ao72, co72, eo72⟩ := Kd.S_slice HO256.out
      (first | subst eo72 | (injection eo72 with f1_ f2_ f3_; have f4_ := f1_.symm; have f5_ := f3_.symm; clear f1_ f2_ f3_; subst f4_; subst f5_))
      refine hK.out _ _ ⟨zc0 BK237 0 rfl, zc0 BK213 0 rfl⟩ (fun hHeld => ?_)
      clear hK K
      refine norm_ (a' := ?_) ?_ ?_
      rotate_left
      ·show Act.put _ (some 53) _ = _
       simp only [Act.put, zp1, zp2, zp3, i64_w, i32_w]
       rfl
      refine one_ (i := 3) (N := some 54) #[true, true, true, true, false] rfl rfl (by kernel_rfl) (by decide) (fun K hK => ?_)
      refine goes_ Try.func19 (by kernel_rfl) rfl #[.agg #[.slice Ao45 t234.length co45], .agg #[.slice Ao72 t254.length co72]] (by rfl) rfl rfl (by (try simp only [List.map_toArray, List.map_cons, List.map_nil]); first | done | rfl | (simp only [List.length_drop, List.length_take]; rfl)) ?_
      with_reducible refine (laws_eqMemory.calls k _ _ t234 _ _ t254 true _ ?side1 ?side2 ?side3 ?side4 A21.out).mono ?_
      (case side1 => repeat (first | exact (Kd.S_reads' HO236.out).2.2 | (with_reducible refine Kd.C_alloc ?_ _) | (with_reducible refine Kd.C_drewN ?_ _) | (with_reducible refine Kd.C_drew ?_)))
      (case side2 => exact (Kd.S_reads' HO236.out).2.1)
      (case side3 => repeat (first | exact (Kd.S_reads' HO256.out).2.2 | (with_reducible refine Kd.C_alloc ?_ _) | (with_reducible refine Kd.C_drewN ?_ _) | (with_reducible refine Kd.C_drew ?_)))
      (case side4 => exact (Kd.S_reads' HO256.out).2.1)
      rintro e w73 ⟨rfl, hb⟩
      refine ⟨_, rfl, ?_⟩
      replace HO218 := zsb HO218 hb
      replace HO236 := zsb HO236 hb
      replace HO256 := zsb HO256 hb
      replace BK213 := zb0 BK213 hb
      replace BK214 := zb0 BK214 hb
      replace BK233 := zb0 BK233 hb
      replace BK237 := zb0 BK237 hb
      replace BK252 := zb0 BK252 hb
      replace HB := zhs HB hb
      (try clear hb)
      (try clear hb2)
      (try clear hk)
      (try clear hi)
      refine hK.out _ _ ⟨zc0 BK237 0 rfl, zc0 BK213 0 rfl⟩ (fun hHeld => ?_)
      clear hK K
      refine norm_ (a' := ?_) ?_ ?_
      rotate_left
      ·show Act.put _ (some 54) _ = _
       simp only [Act.put, zp1, zp2, zp3, i64_w, i32_w]
       rfl
      refine pure_ (i := 4) (N := some 55) (v := ?_) (a' := ?_) #[true, true, true, true, true] rfl rfl (by kernel_rfl) (fun _ _ _ h => h) (Or.inl ⟨by rfl, ?_⟩) ?_ ?_
      rotate_left
      ·intro w'
       go_simp
       with_reducible rfl
      rotate_left
      ·simp only [Act.put, zp1, zp2, zp3, i64_w, i32_w]
       rfl
      refine done_ (by kernel_rfl) ?_
      try go_wp2
      go_ret
      exact ⟨by first | rfl | (simp [errW_none, errW_some] <;> rfl) | (simp [*, errW_none, errW_some] <;> rfl), by repeat (first | (with_reducible first | exact HB.out | apply below_alloc | apply pw_below_drewN | apply below_drew1 | refine below_set ?_ GE213.out | refine below_set ?_ GE214.out | refine below_set ?_ GE233.out | refine below_set ?_ GE237.out | refine below_set ?_ GE252.out) | exact HB.out)⟩
     ·replace c22 := Bool.eq_false_iff.mpr c22
      subst c22
      have H1 : (none) = some r := by rw [if_neg (show ¬ (false = true) by decide)] at H; exact H
      clear H
      have H := H1
      clear H1
      exact absurd H (by simp)
   ·replace c18 := Bool.eq_false_iff.mpr c18
    subst c18
    have H1 : (none) = some r := by rw [if_neg (show ¬ (false = true) by decide)] at H; exact H
    clear H
    have H := H1
    clear H1
    exact absurd H (by simp)
  ·rw [if_neg c16] at H
   exact absurd H (by simp)

end Go.Proofs.Ytdojnaghcfhadaa.PFnExactPopBack
