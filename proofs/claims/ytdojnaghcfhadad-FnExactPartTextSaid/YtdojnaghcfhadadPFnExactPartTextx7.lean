/- What is proved here: each Go function that is named below answers, and leaves memory, as the theorem of its name says; no condition beyond those that each theorem states. Laid by this session's own program (wip/driver.py) over the kit's print. -/
import Derived.Test.YtdojnaghcfhadadPFnExactPartTextx0
import Derived.Test.YtdojnaghcfhadadPFnExactPartTextx1
import Derived.Test.YtdojnaghcfhadadPFnExactPartTextx2
import Derived.Test.YtdojnaghcfhadadPFnExactPartTextx4
import Derived.Test.YtdojnaghcfhadadPFnExactPartTextx6
namespace Go.Proofs.Ytdojnaghcfhadad.PFnExactPartText
open Go.RowKit Go.Proofs.YtdojnaghcfhadadW.PrintWords Go.Proofs.YtdojnaghcfhadadW.PrintLast Go.Proofs.YtdojnaghcfhadadW.PrintMore
attribute [local go_sem] max2_int min2_int max_two min_two max_three min_three max_four min_four   -- for this text's walks alone
set_option linter.unusedVariables false
set_option linter.unusedSimpArgs false

open Go.Proofs.Ytdojnaghcfhadad.Cp
/-! ### laws_FnExactPartText: function 6 -/
def laws_FnExactPartText.f (k : Nat) (l0_0 : List (List Int)) (l1_0 : List (S51)) (a2 : Int) (a3 : Int) : Option (Bool) := (laws_szMemory.f k l0_0 1048576).bind fun t332 => (if t332 < 0 then (some true) else ((laws_szRope.f l1_0 t332).bind fun t333 => (if t333 < 0 then (some true) else ((laws_toMemory.f k l0_0).bind fun t334 => ((laws_toRope.f k l1_0).bind fun t337 => ((spec_PartText.f k t334 t337 a2 a3).bind fun bt340 => ((laws_toMemory.f k l0_0).bind fun t345 => ((laws_toRope.f k l1_0).bind fun t349 => ((impl_PartText.f k t345 t349 a2 a3).bind fun bt353 => ((laws_eqRope.f k bt353.1 bt340.1).bind fun t358 => (if t358 = true then (if (bt353.2 != bt340.2) = true then (none) else ((laws_toMemory.f k l0_0).bind fun t359 => ((laws_eqMemory.f k t345 t359).bind fun t362 => (if t362 = true then ((laws_toRope.f k l1_0).bind fun t363 => ((laws_eqRope.f k t349 t363).bind fun t366 => (if t366 = true then ((laws_markMemory.f k t345 1).bind fun t367 => ((laws_markRope.f k t349 t367).bind fun bt368 => (if bt368.1 < 0 then (none) else ((laws_eqRope.f k bt353.1 bt340.1).bind fun t370 => (if t370 = true then ((laws_markRope.f k bt353.1 1).bind fun bt371 => ((laws_heldRope.f k bt371.2 1).bind fun t373 => (if t373 < 0 then (none) else (if t373 = bt371.1 then ((laws_toMemory.f k l0_0).bind fun t374 => ((laws_toRope.f k l1_0).bind fun t377 => ((impl_PartText.f k t374 t377 a2 a3).bind fun bt380 => ((laws_eqRope.f k bt380.1 bt340.1).bind fun t385 => (if t385 = true then (if (bt380.2 != bt340.2) = true then (none) else ((laws_heldRope.f k bt371.2 1).bind fun t386 => (if t386 < 0 then (none) else (if t386 = bt371.1 then (some true) else (none))))) else (none)))))) else (none))))) else (none)))))) else (none)))) else (none))))) else (none))))))))))))
theorem laws_FnExactPartText.mono : ∀ a0 a1 a2 a3 k, LeO (laws_FnExactPartText.f k a0 a1 a2 a3) (laws_FnExactPartText.f (k + 1) a0 a1 a2 a3) := by
 intro a0 a1 a2 a3 k
 unfold laws_FnExactPartText.f
 repeat' first
   | (with_reducible exact impl_PartText.mono _ _ _ _ _)
   | (with_reducible exact laws_eqMemory.mono _ _ _)
   | (with_reducible exact laws_eqRope.mono _ _ _)
   | (with_reducible exact laws_heldRope.mono _ _ _)
   | (with_reducible exact laws_markMemory.mono _ _ _)
   | (with_reducible exact laws_markRope.mono _ _ _)
   | (with_reducible exact laws_szMemory.mono _ _ _)
   | (with_reducible exact laws_toMemory.mono _ _)
   | (with_reducible exact laws_toRope.mono _ _)
   | (with_reducible exact spec_PartText.mono _ _ _ _ _)
   | (with_reducible exact LeO.refl _)
   | (with_reducible exact LeO.none _)
   | (with_reducible refine LeO.ite ?_ ?_)
   | (with_reducible refine LeO.bind ?_ (fun _ => ?_))
   | exact impl_PartText.mono _ _ _ _ _
   | exact laws_eqMemory.mono _ _ _
   | exact laws_eqRope.mono _ _ _
   | exact laws_heldRope.mono _ _ _
   | exact laws_markMemory.mono _ _ _
   | exact laws_markRope.mono _ _ _
   | exact laws_szMemory.mono _ _ _
   | exact laws_toMemory.mono _ _
   | exact laws_toRope.mono _ _
   | exact spec_PartText.mono _ _ _ _ _
   | exact LeO.none _
   | refine LeO.ite ?_ ?_
   | refine LeO.bind ?_ (fun _ => ?_)
def laws_FnExactPartText.T8 : Bool × List (List Nat × List Nat) := (true, [([], []), ([0], [0]), ([], []), ([2, 1], [2]), ([], []), ([], []), ([1, 3, 4, 5, 3], [1, 3, 4, 5]), ([6], [6]), ([7], [7]), ([7], [7]), ([], []), ([10, 8, 6, 0, 1, 2, 3, 4, 5, 6, 7, 8, 10], [8, 10]), ([9, 11, 0, 1, 2, 3, 4, 5, 6, 7, 8, 9, 10, 11], [9])])
def laws_FnExactPartText.B8 : List Nat := [0, 1, 0, 7, 0, 0, 63, 127, 255, 255, 0, 1535, 4095]
theorem laws_FnExactPartText.tab8 : rtab .any (opsOf Try.f6 8) = laws_FnExactPartText.T8 := by kernel_rfl
theorem laws_FnExactPartText.bits8 : waitsOk laws_FnExactPartText.T8.2 laws_FnExactPartText.B8 = true := by kernel_rfl
def laws_FnExactPartText.T31 : Bool × List (List Nat × List Nat) := (true, [([], []), ([0], [0]), ([], []), ([2, 1], [2]), ([], []), ([], []), ([1, 3, 4, 5, 3], [1, 3, 4, 5]), ([6], [6]), ([7], [7]), ([7], [7]), ([], []), ([10, 8, 6, 0, 1, 2, 3, 4, 5, 6, 7, 8, 10], [8, 10]), ([9, 11, 0, 1, 2, 3, 4, 5, 6, 7, 8, 9, 10, 11], [9])])
def laws_FnExactPartText.B31 : List Nat := [0, 1, 0, 7, 0, 0, 63, 127, 255, 255, 0, 1535, 4095]
theorem laws_FnExactPartText.tab31 : rtab .any (opsOf Try.f6 31) = laws_FnExactPartText.T31 := by kernel_rfl
theorem laws_FnExactPartText.bits31 : waitsOk laws_FnExactPartText.T31.2 laws_FnExactPartText.B31 = true := by kernel_rfl
set_option maxHeartbeats 8000000 in
set_option maxRecDepth 100000 in
theorem laws_FnExactPartText.calls (k : Nat) (A0_0 : Option Addr) (c0_0 : Nat) (l0_0 : List (List Int)) (A1_0 : Option Addr) (c1_0 : Nat) (l1_0 : List (S51)) (a2 : Int) (a3 : Int) (r : Bool) (w : World) (hr0_0 : Kd.C (Kd.slice 5 (Kd.int .u8)) w A0_0 l0_0.length l0_0) (hc0_0 : l0_0.length ≤ c0_0) (hr1_0 : Kd.C k51 w A1_0 l1_0.length l1_0) (hc1_0 : l1_0.length ≤ c1_0) (h : laws_FnExactPartText.f k l0_0 l1_0 a2 a3 = some r) :
  Calls Try.prog 6 #[.agg #[.slice A0_0 l0_0.length c0_0], .agg #[.slice A1_0 l1_0.length c1_0], .int .i64 a2, .int .i64 a3] w fun e w' => e = .returned (.bool r) ∧ Below w.heap.size w w' := by
 have hu24 := Try.underlying24
 have hu27 := Try.underlying27
 have hu32 := Try.underlying32
 have hu35 := Try.underlying35
 have HR0_0 := Aside0.mk hr0_0
 have HC0_0 := Aside0.mk hc0_0
 clear hr0_0 hc0_0
 have HR1_0 := Aside0.mk hr1_0
 have HC1_0 := Aside0.mk hc1_0
 clear hr1_0 hc1_0
 have HB := Aside0.mk (Below.refl w.heap.size w)
 have H : ((laws_szMemory.f k l0_0 1048576).bind fun t332 => (if t332 < 0 then (some true) else ((laws_szRope.f l1_0 t332).bind fun t333 => (if t333 < 0 then (some true) else ((laws_toMemory.f k l0_0).bind fun t334 => ((laws_toRope.f k l1_0).bind fun t337 => ((spec_PartText.f k t334 t337 a2 a3).bind fun bt340 => ((laws_toMemory.f k l0_0).bind fun t345 => ((laws_toRope.f k l1_0).bind fun t349 => ((impl_PartText.f k t345 t349 a2 a3).bind fun bt353 => ((laws_eqRope.f k bt353.1 bt340.1).bind fun t358 => (if t358 = true then (if (bt353.2 != bt340.2) = true then (none) else ((laws_toMemory.f k l0_0).bind fun t359 => ((laws_eqMemory.f k t345 t359).bind fun t362 => (if t362 = true then ((laws_toRope.f k l1_0).bind fun t363 => ((laws_eqRope.f k t349 t363).bind fun t366 => (if t366 = true then ((laws_markMemory.f k t345 1).bind fun t367 => ((laws_markRope.f k t349 t367).bind fun bt368 => (if bt368.1 < 0 then (none) else ((laws_eqRope.f k bt353.1 bt340.1).bind fun t370 => (if t370 = true then ((laws_markRope.f k bt353.1 1).bind fun bt371 => ((laws_heldRope.f k bt371.2 1).bind fun t373 => (if t373 < 0 then (none) else (if t373 = bt371.1 then ((laws_toMemory.f k l0_0).bind fun t374 => ((laws_toRope.f k l1_0).bind fun t377 => ((impl_PartText.f k t374 t377 a2 a3).bind fun bt380 => ((laws_eqRope.f k bt380.1 bt340.1).bind fun t385 => (if t385 = true then (if (bt380.2 != bt340.2) = true then (none) else ((laws_heldRope.f k bt371.2 1).bind fun t386 => (if t386 < 0 then (none) else (if t386 = bt371.1 then (some true) else (none))))) else (none)))))) else (none))))) else (none)))))) else (none)))) else (none))))) else (none))))))))))))) = some r := h
 clear h
 replace H := Option.bind_eq_some_iff.mp H
 obtain ⟨t332, A50, H⟩ := H
 replace H : (if t332 < 0 then (some true) else ((laws_szRope.f l1_0 t332).bind fun t333 => (if t333 < 0 then (some true) else ((laws_toMemory.f k l0_0).bind fun t334 => ((laws_toRope.f k l1_0).bind fun t337 => ((spec_PartText.f k t334 t337 a2 a3).bind fun bt340 => ((laws_toMemory.f k l0_0).bind fun t345 => ((laws_toRope.f k l1_0).bind fun t349 => ((impl_PartText.f k t345 t349 a2 a3).bind fun bt353 => ((laws_eqRope.f k bt353.1 bt340.1).bind fun t358 => (if t358 = true then (if (bt353.2 != bt340.2) = true then (none) else ((laws_toMemory.f k l0_0).bind fun t359 => ((laws_eqMemory.f k t345 t359).bind fun t362 => (if t362 = true then ((laws_toRope.f k l1_0).bind fun t363 => ((laws_eqRope.f k t349 t363).bind fun t366 => (if t366 = true then ((laws_markMemory.f k t345 1).bind fun t367 => ((laws_markRope.f k t349 t367).bind fun bt368 => (if bt368.1 < 0 then (none) else ((laws_eqRope.f k bt353.1 bt340.1).bind fun t370 => (if t370 = true then ((laws_markRope.f k bt353.1 1).bind fun bt371 => ((laws_heldRope.f k bt371.2 1).bind fun t373 => (if t373 < 0 then (none) else (if t373 = bt371.1 then ((laws_toMemory.f k l0_0).bind fun t374 => ((laws_toRope.f k l1_0).bind fun t377 => ((impl_PartText.f k t374 t377 a2 a3).bind fun bt380 => ((laws_eqRope.f k bt380.1 bt340.1).bind fun t385 => (if t385 = true then (if (bt380.2 != bt340.2) = true then (none) else ((laws_heldRope.f k bt371.2 1).bind fun t386 => (if t386 < 0 then (none) else (if t386 = bt371.1 then (some true) else (none))))) else (none)))))) else (none))))) else (none)))))) else (none)))) else (none))))) else (none)))))))))))) = some r := H
 have A5 := Aside0.mk A50
 clear A50
 by_cases c6 : t332 < 0
 ·rw [if_pos c6] at H
  have c6b0 : decide (t332 < 0) = true := decide_eq_true c6
  clear c6
  obtain rfl := Option.some.inj H
  go_enter Try.func6, Try.ntmps6
  go_wp2_with (first | ((with_reducible refine gate_dst (N := 4) rfl ?_); refine box_event ?hg (N := 4) ?hd (cs := #[.slice A0_0 l0_0.length c0_0]) (t := 24) ?hr ?_; (case hd => rfl); (case hg => rfl); (case hr => first | (go_simp; done) | (go_simp; rfl)); intro gb330 hg w7 hbox hb; have BK330 := Aside0.mk (hbox); have GW330 := zge HB hg; have GE330 := zge HB hg; replace HB := zhs HB hb; clear hb hbox hg) | ((with_reducible refine gate_dst (N := 5) rfl ?_); refine box_event ?hg (N := 5) ?hd (cs := #[.slice A1_0 l1_0.length c1_0]) (t := 27) ?hr ?_; (case hd => rfl); (case hg => rfl); (case hr => first | (go_simp; done) | (go_simp; rfl)); intro gb331 hg w8 hbox hb; have BK331 := Aside0.mk (hbox); have GW331 := zge HB hg; have GE331 := zge HB hg; have NB330_331 := znl BK330 hg; have NB331_330 := znr BK330 hg; replace BK330 := zb0 BK330 hb; replace HB := zhs HB hb; clear hb hbox hg; have hnb9 := NB330_331.out; have hnc9 := NB331_330.out; have hcz10_0 := zc0 BK330 0 rfl; have hfz10_0 := blk_frozen BK330.out 0) | ((with_reducible refine gate_callee (f := 14) rfl ?_); refine goesL_ (some 23) rfl rfl Try.func14 (by kernel_rfl) rfl #[.agg #[.slice A0_0 l0_0.length c0_0], .int .i64 1048576] rfl (by (try simp only [zq1, zq2, zq3]); first | done | rfl | (simp only [List.length_drop, List.length_take]; rfl)) ?_; (with_reducible refine (laws_szMemory.calls k _ _ l0_0 1048576 t332 _ ?side1 ?side2 A5.out).mono ?_); (case side1 => exact Kd.C_below HR0_0.out (zh0 HB)); (case side2 => exact HC0_0.out); rintro e w11 ⟨rfl, hb⟩; refine ⟨_, rfl, ?_⟩; replace BK330 := zb0 BK330 hb; replace BK331 := zb0 BK331 hb; replace HB := zhs HB hb; (try clear hb); (try clear hb2); (try clear hk); (try clear hi)))
  go_ret
  exact ⟨by first | rfl | (simp <;> rfl) | (simp [*] <;> rfl), by repeat (first | exact zh0 HB | refine below_set ?_ GE330.out | refine below_set ?_ GE331.out)⟩
 ·rw [if_neg c6] at H
  have c6b0 : decide (t332 < 0) = false := decide_eq_false c6
  clear c6
  replace H := Option.bind_eq_some_iff.mp H
  obtain ⟨t333, A120, H⟩ := H
  replace H : (if t333 < 0 then (some true) else ((laws_toMemory.f k l0_0).bind fun t334 => ((laws_toRope.f k l1_0).bind fun t337 => ((spec_PartText.f k t334 t337 a2 a3).bind fun bt340 => ((laws_toMemory.f k l0_0).bind fun t345 => ((laws_toRope.f k l1_0).bind fun t349 => ((impl_PartText.f k t345 t349 a2 a3).bind fun bt353 => ((laws_eqRope.f k bt353.1 bt340.1).bind fun t358 => (if t358 = true then (if (bt353.2 != bt340.2) = true then (none) else ((laws_toMemory.f k l0_0).bind fun t359 => ((laws_eqMemory.f k t345 t359).bind fun t362 => (if t362 = true then ((laws_toRope.f k l1_0).bind fun t363 => ((laws_eqRope.f k t349 t363).bind fun t366 => (if t366 = true then ((laws_markMemory.f k t345 1).bind fun t367 => ((laws_markRope.f k t349 t367).bind fun bt368 => (if bt368.1 < 0 then (none) else ((laws_eqRope.f k bt353.1 bt340.1).bind fun t370 => (if t370 = true then ((laws_markRope.f k bt353.1 1).bind fun bt371 => ((laws_heldRope.f k bt371.2 1).bind fun t373 => (if t373 < 0 then (none) else (if t373 = bt371.1 then ((laws_toMemory.f k l0_0).bind fun t374 => ((laws_toRope.f k l1_0).bind fun t377 => ((impl_PartText.f k t374 t377 a2 a3).bind fun bt380 => ((laws_eqRope.f k bt380.1 bt340.1).bind fun t385 => (if t385 = true then (if (bt380.2 != bt340.2) = true then (none) else ((laws_heldRope.f k bt371.2 1).bind fun t386 => (if t386 < 0 then (none) else (if t386 = bt371.1 then (some true) else (none))))) else (none)))))) else (none))))) else (none)))))) else (none)))) else (none))))) else (none)))))))))) = some r := H
  have A12 := Aside0.mk A120
  clear A120
  by_cases c13 : t333 < 0
  ·rw [if_pos c13] at H
   have c13b0 : decide (t333 < 0) = true := decide_eq_true c13
   clear c13
   obtain rfl := Option.some.inj H
   go_enter Try.func6, Try.ntmps6
   go_wp2_with (first | ((with_reducible refine gate_dst (N := 4) rfl ?_); refine box_event ?hg (N := 4) ?hd (cs := #[.slice A0_0 l0_0.length c0_0]) (t := 24) ?hr ?_; (case hd => rfl); (case hg => rfl); (case hr => first | (go_simp; done) | (go_simp; rfl)); intro gb330 hg w14 hbox hb; have BK330 := Aside0.mk (hbox); have GW330 := zge HB hg; have GE330 := zge HB hg; replace HB := zhs HB hb; clear hb hbox hg) | ((with_reducible refine gate_dst (N := 5) rfl ?_); refine box_event ?hg (N := 5) ?hd (cs := #[.slice A1_0 l1_0.length c1_0]) (t := 27) ?hr ?_; (case hd => rfl); (case hg => rfl); (case hr => first | (go_simp; done) | (go_simp; rfl)); intro gb331 hg w15 hbox hb; have BK331 := Aside0.mk (hbox); have GW331 := zge HB hg; have GE331 := zge HB hg; have NB330_331 := znl BK330 hg; have NB331_330 := znr BK330 hg; replace BK330 := zb0 BK330 hb; replace HB := zhs HB hb; clear hb hbox hg; have hnb16 := NB330_331.out; have hnc16 := NB331_330.out; have hcz17_0 := zc0 BK330 0 rfl; have hfz17_0 := blk_frozen BK330.out 0) | ((with_reducible refine gate_callee (f := 14) rfl ?_); refine goesL_ (some 23) rfl rfl Try.func14 (by kernel_rfl) rfl #[.agg #[.slice A0_0 l0_0.length c0_0], .int .i64 1048576] rfl (by (try simp only [zq1, zq2, zq3]); first | done | rfl | (simp only [List.length_drop, List.length_take]; rfl)) ?_; (with_reducible refine (laws_szMemory.calls k _ _ l0_0 1048576 t332 _ ?side1 ?side2 A5.out).mono ?_); (case side1 => exact Kd.C_below HR0_0.out (zh0 HB)); (case side2 => exact HC0_0.out); rintro e w18 ⟨rfl, hb⟩; refine ⟨_, rfl, ?_⟩; replace BK330 := zb0 BK330 hb; replace BK331 := zb0 BK331 hb; replace HB := zhs HB hb; (try clear hb); (try clear hb2); (try clear hk); (try clear hi); have hcz19_0 := zc0 BK331 0 rfl; have hfz19_0 := blk_frozen BK331.out 0) | ((with_reducible refine gate_callee (f := 15) rfl ?_); refine goesL_ (some 28) rfl rfl Try.func15 (by kernel_rfl) rfl #[.agg #[.slice A1_0 l1_0.length c1_0], .int .i64 t332] rfl (by (try simp only [zq1, zq2, zq3]); first | done | rfl | (simp only [List.length_drop, List.length_take]; rfl)) ?_; (with_reducible refine (laws_szRope.calls _ _ l1_0 t332 t333 _ ?side1 ?side2 A12.out).mono ?_); (case side1 => exact Kd.C_below HR1_0.out (zh0 HB)); (case side2 => exact HC1_0.out); rintro e w20 ⟨rfl, hb⟩; refine ⟨_, rfl, ?_⟩; replace BK330 := zb0 BK330 hb; replace BK331 := zb0 BK331 hb; replace HB := zhs HB hb; (try clear hb); (try clear hb2); (try clear hk); (try clear hi)))
   go_ret
   exact ⟨by first | rfl | (simp <;> rfl) | (simp [*] <;> rfl), by repeat (first | exact zh0 HB | refine below_set ?_ GE330.out | refine below_set ?_ GE331.out)⟩
  ·rw [if_neg c13] at H
   have c13b0 : decide (t333 < 0) = false := decide_eq_false c13
   clear c13
   replace H := Option.bind_eq_some_iff.mp H
   obtain ⟨t334, A210, H⟩ := H
   replace H : ((laws_toRope.f k l1_0).bind fun t337 => ((spec_PartText.f k t334 t337 a2 a3).bind fun bt340 => ((laws_toMemory.f k l0_0).bind fun t345 => ((laws_toRope.f k l1_0).bind fun t349 => ((impl_PartText.f k t345 t349 a2 a3).bind fun bt353 => ((laws_eqRope.f k bt353.1 bt340.1).bind fun t358 => (if t358 = true then (if (bt353.2 != bt340.2) = true then (none) else ((laws_toMemory.f k l0_0).bind fun t359 => ((laws_eqMemory.f k t345 t359).bind fun t362 => (if t362 = true then ((laws_toRope.f k l1_0).bind fun t363 => ((laws_eqRope.f k t349 t363).bind fun t366 => (if t366 = true then ((laws_markMemory.f k t345 1).bind fun t367 => ((laws_markRope.f k t349 t367).bind fun bt368 => (if bt368.1 < 0 then (none) else ((laws_eqRope.f k bt353.1 bt340.1).bind fun t370 => (if t370 = true then ((laws_markRope.f k bt353.1 1).bind fun bt371 => ((laws_heldRope.f k bt371.2 1).bind fun t373 => (if t373 < 0 then (none) else (if t373 = bt371.1 then ((laws_toMemory.f k l0_0).bind fun t374 => ((laws_toRope.f k l1_0).bind fun t377 => ((impl_PartText.f k t374 t377 a2 a3).bind fun bt380 => ((laws_eqRope.f k bt380.1 bt340.1).bind fun t385 => (if t385 = true then (if (bt380.2 != bt340.2) = true then (none) else ((laws_heldRope.f k bt371.2 1).bind fun t386 => (if t386 < 0 then (none) else (if t386 = bt371.1 then (some true) else (none))))) else (none)))))) else (none))))) else (none)))))) else (none)))) else (none))))) else (none)))))))) = some r := H
   have A21 := Aside0.mk A210
   clear A210
   replace H := Option.bind_eq_some_iff.mp H
   obtain ⟨t337, A220, H⟩ := H
   replace H : ((spec_PartText.f k t334 t337 a2 a3).bind fun bt340 => ((laws_toMemory.f k l0_0).bind fun t345 => ((laws_toRope.f k l1_0).bind fun t349 => ((impl_PartText.f k t345 t349 a2 a3).bind fun bt353 => ((laws_eqRope.f k bt353.1 bt340.1).bind fun t358 => (if t358 = true then (if (bt353.2 != bt340.2) = true then (none) else ((laws_toMemory.f k l0_0).bind fun t359 => ((laws_eqMemory.f k t345 t359).bind fun t362 => (if t362 = true then ((laws_toRope.f k l1_0).bind fun t363 => ((laws_eqRope.f k t349 t363).bind fun t366 => (if t366 = true then ((laws_markMemory.f k t345 1).bind fun t367 => ((laws_markRope.f k t349 t367).bind fun bt368 => (if bt368.1 < 0 then (none) else ((laws_eqRope.f k bt353.1 bt340.1).bind fun t370 => (if t370 = true then ((laws_markRope.f k bt353.1 1).bind fun bt371 => ((laws_heldRope.f k bt371.2 1).bind fun t373 => (if t373 < 0 then (none) else (if t373 = bt371.1 then ((laws_toMemory.f k l0_0).bind fun t374 => ((laws_toRope.f k l1_0).bind fun t377 => ((impl_PartText.f k t374 t377 a2 a3).bind fun bt380 => ((laws_eqRope.f k bt380.1 bt340.1).bind fun t385 => (if t385 = true then (if (bt380.2 != bt340.2) = true then (none) else ((laws_heldRope.f k bt371.2 1).bind fun t386 => (if t386 < 0 then (none) else (if t386 = bt371.1 then (some true) else (none))))) else (none)))))) else (none))))) else (none)))))) else (none)))) else (none))))) else (none))))))) = some r := H
   have A22 := Aside0.mk A220
   clear A220
   replace H := Option.bind_eq_some_iff.mp H
   obtain ⟨⟨t340, t343⟩, A230, H⟩ := H
   replace H : ((laws_toMemory.f k l0_0).bind fun t345 => ((laws_toRope.f k l1_0).bind fun t349 => ((impl_PartText.f k t345 t349 a2 a3).bind fun bt353 => ((laws_eqRope.f k bt353.1 t340).bind fun t358 => (if t358 = true then (if (bt353.2 != t343) = true then (none) else ((laws_toMemory.f k l0_0).bind fun t359 => ((laws_eqMemory.f k t345 t359).bind fun t362 => (if t362 = true then ((laws_toRope.f k l1_0).bind fun t363 => ((laws_eqRope.f k t349 t363).bind fun t366 => (if t366 = true then ((laws_markMemory.f k t345 1).bind fun t367 => ((laws_markRope.f k t349 t367).bind fun bt368 => (if bt368.1 < 0 then (none) else ((laws_eqRope.f k bt353.1 t340).bind fun t370 => (if t370 = true then ((laws_markRope.f k bt353.1 1).bind fun bt371 => ((laws_heldRope.f k bt371.2 1).bind fun t373 => (if t373 < 0 then (none) else (if t373 = bt371.1 then ((laws_toMemory.f k l0_0).bind fun t374 => ((laws_toRope.f k l1_0).bind fun t377 => ((impl_PartText.f k t374 t377 a2 a3).bind fun bt380 => ((laws_eqRope.f k bt380.1 t340).bind fun t385 => (if t385 = true then (if (bt380.2 != t343) = true then (none) else ((laws_heldRope.f k bt371.2 1).bind fun t386 => (if t386 < 0 then (none) else (if t386 = bt371.1 then (some true) else (none))))) else (none)))))) else (none))))) else (none)))))) else (none)))) else (none))))) else (none)))))) = some r := H
   have A23 := Aside0.mk A230
   clear A230
   replace H := Option.bind_eq_some_iff.mp H
   obtain ⟨t345, A240, H⟩ := H
   replace H : ((laws_toRope.f k l1_0).bind fun t349 => ((impl_PartText.f k t345 t349 a2 a3).bind fun bt353 => ((laws_eqRope.f k bt353.1 t340).bind fun t358 => (if t358 = true then (if (bt353.2 != t343) = true then (none) else ((laws_toMemory.f k l0_0).bind fun t359 => ((laws_eqMemory.f k t345 t359).bind fun t362 => (if t362 = true then ((laws_toRope.f k l1_0).bind fun t363 => ((laws_eqRope.f k t349 t363).bind fun t366 => (if t366 = true then ((laws_markMemory.f k t345 1).bind fun t367 => ((laws_markRope.f k t349 t367).bind fun bt368 => (if bt368.1 < 0 then (none) else ((laws_eqRope.f k bt353.1 t340).bind fun t370 => (if t370 = true then ((laws_markRope.f k bt353.1 1).bind fun bt371 => ((laws_heldRope.f k bt371.2 1).bind fun t373 => (if t373 < 0 then (none) else (if t373 = bt371.1 then ((laws_toMemory.f k l0_0).bind fun t374 => ((laws_toRope.f k l1_0).bind fun t377 => ((impl_PartText.f k t374 t377 a2 a3).bind fun bt380 => ((laws_eqRope.f k bt380.1 t340).bind fun t385 => (if t385 = true then (if (bt380.2 != t343) = true then (none) else ((laws_heldRope.f k bt371.2 1).bind fun t386 => (if t386 < 0 then (none) else (if t386 = bt371.1 then (some true) else (none))))) else (none)))))) else (none))))) else (none)))))) else (none)))) else (none))))) else (none))))) = some r := H
   have A24 := Aside0.mk A240
   clear A240
   replace H := Option.bind_eq_some_iff.mp H
   obtain ⟨t349, A250, H⟩ := H
   replace H : ((impl_PartText.f k t345 t349 a2 a3).bind fun bt353 => ((laws_eqRope.f k bt353.1 t340).bind fun t358 => (if t358 = true then (if (bt353.2 != t343) = true then (none) else ((laws_toMemory.f k l0_0).bind fun t359 => ((laws_eqMemory.f k t345 t359).bind fun t362 => (if t362 = true then ((laws_toRope.f k l1_0).bind fun t363 => ((laws_eqRope.f k t349 t363).bind fun t366 => (if t366 = true then ((laws_markMemory.f k t345 1).bind fun t367 => ((laws_markRope.f k t349 t367).bind fun bt368 => (if bt368.1 < 0 then (none) else ((laws_eqRope.f k bt353.1 t340).bind fun t370 => (if t370 = true then ((laws_markRope.f k bt353.1 1).bind fun bt371 => ((laws_heldRope.f k bt371.2 1).bind fun t373 => (if t373 < 0 then (none) else (if t373 = bt371.1 then ((laws_toMemory.f k l0_0).bind fun t374 => ((laws_toRope.f k l1_0).bind fun t377 => ((impl_PartText.f k t374 t377 a2 a3).bind fun bt380 => ((laws_eqRope.f k bt380.1 t340).bind fun t385 => (if t385 = true then (if (bt380.2 != t343) = true then (none) else ((laws_heldRope.f k bt371.2 1).bind fun t386 => (if t386 < 0 then (none) else (if t386 = bt371.1 then (some true) else (none))))) else (none)))))) else (none))))) else (none)))))) else (none)))) else (none))))) else (none)))) = some r := H
   have A25 := Aside0.mk A250
   clear A250
   replace H := Option.bind_eq_some_iff.mp H
   obtain ⟨⟨t353, t356⟩, A260, H⟩ := H
   replace H : ((laws_eqRope.f k t353 t340).bind fun t358 => (if t358 = true then (if (t356 != t343) = true then (none) else ((laws_toMemory.f k l0_0).bind fun t359 => ((laws_eqMemory.f k t345 t359).bind fun t362 => (if t362 = true then ((laws_toRope.f k l1_0).bind fun t363 => ((laws_eqRope.f k t349 t363).bind fun t366 => (if t366 = true then ((laws_markMemory.f k t345 1).bind fun t367 => ((laws_markRope.f k t349 t367).bind fun bt368 => (if bt368.1 < 0 then (none) else ((laws_eqRope.f k t353 t340).bind fun t370 => (if t370 = true then ((laws_markRope.f k t353 1).bind fun bt371 => ((laws_heldRope.f k bt371.2 1).bind fun t373 => (if t373 < 0 then (none) else (if t373 = bt371.1 then ((laws_toMemory.f k l0_0).bind fun t374 => ((laws_toRope.f k l1_0).bind fun t377 => ((impl_PartText.f k t374 t377 a2 a3).bind fun bt380 => ((laws_eqRope.f k bt380.1 t340).bind fun t385 => (if t385 = true then (if (bt380.2 != t343) = true then (none) else ((laws_heldRope.f k bt371.2 1).bind fun t386 => (if t386 < 0 then (none) else (if t386 = bt371.1 then (some true) else (none))))) else (none)))))) else (none))))) else (none)))))) else (none)))) else (none))))) else (none))) = some r := H
   have A26 := Aside0.mk A260
   clear A260
   replace H := Option.bind_eq_some_iff.mp H
   obtain ⟨t358, A270, H⟩ := H
   replace H : (if t358 = true then (if (t356 != t343) = true then (none) else ((laws_toMemory.f k l0_0).bind fun t359 => ((laws_eqMemory.f k t345 t359).bind fun t362 => (if t362 = true then ((laws_toRope.f k l1_0).bind fun t363 => ((laws_eqRope.f k t349 t363).bind fun t366 => (if t366 = true then ((laws_markMemory.f k t345 1).bind fun t367 => ((laws_markRope.f k t349 t367).bind fun bt368 => (if bt368.1 < 0 then (none) else ((laws_eqRope.f k t353 t340).bind fun t370 => (if t370 = true then ((laws_markRope.f k t353 1).bind fun bt371 => ((laws_heldRope.f k bt371.2 1).bind fun t373 => (if t373 < 0 then (none) else (if t373 = bt371.1 then ((laws_toMemory.f k l0_0).bind fun t374 => ((laws_toRope.f k l1_0).bind fun t377 => ((impl_PartText.f k t374 t377 a2 a3).bind fun bt380 => ((laws_eqRope.f k bt380.1 t340).bind fun t385 => (if t385 = true then (if (bt380.2 != t343) = true then (none) else ((laws_heldRope.f k bt371.2 1).bind fun t386 => (if t386 < 0 then (none) else (if t386 = bt371.1 then (some true) else (none))))) else (none)))))) else (none))))) else (none)))))) else (none)))) else (none))))) else (none)) = some r := H
   have A27 := Aside0.mk A270
   clear A270
   by_cases c28 : t358 = true
   ·subst c28
    have H1 : (if (t356 != t343) = true then (none) else ((laws_toMemory.f k l0_0).bind fun t359 => ((laws_eqMemory.f k t345 t359).bind fun t362 => (if t362 = true then ((laws_toRope.f k l1_0).bind fun t363 => ((laws_eqRope.f k t349 t363).bind fun t366 => (if t366 = true then ((laws_markMemory.f k t345 1).bind fun t367 => ((laws_markRope.f k t349 t367).bind fun bt368 => (if bt368.1 < 0 then (none) else ((laws_eqRope.f k t353 t340).bind fun t370 => (if t370 = true then ((laws_markRope.f k t353 1).bind fun bt371 => ((laws_heldRope.f k bt371.2 1).bind fun t373 => (if t373 < 0 then (none) else (if t373 = bt371.1 then ((laws_toMemory.f k l0_0).bind fun t374 => ((laws_toRope.f k l1_0).bind fun t377 => ((impl_PartText.f k t374 t377 a2 a3).bind fun bt380 => ((laws_eqRope.f k bt380.1 t340).bind fun t385 => (if t385 = true then (if (bt380.2 != t343) = true then (none) else ((laws_heldRope.f k bt371.2 1).bind fun t386 => (if t386 < 0 then (none) else (if t386 = bt371.1 then (some true) else (none))))) else (none)))))) else (none))))) else (none)))))) else (none)))) else (none))))) = some r := by rw [if_pos rfl] at H; exact H
    clear H
    have H := H1
    clear H1
    by_cases c29 : (t356 != t343) = true
    ·rw [if_pos c29] at H
     exact absurd H (by simp)
    ·rw [if_neg c29] at H
     have c29b0 : (t356 != t343) = false := by simpa using c29
     (try (have c29b1 : decide (t356 = t343) = true := by simpa using c29))
     (try (have c29b2 : (t356 == t343) = true := by simpa using c29))
     clear c29
     replace H := Option.bind_eq_some_iff.mp H
     obtain ⟨t359, A300, H⟩ := H
     replace H : ((laws_eqMemory.f k t345 t359).bind fun t362 => (if t362 = true then ((laws_toRope.f k l1_0).bind fun t363 => ((laws_eqRope.f k t349 t363).bind fun t366 => (if t366 = true then ((laws_markMemory.f k t345 1).bind fun t367 => ((laws_markRope.f k t349 t367).bind fun bt368 => (if bt368.1 < 0 then (none) else ((laws_eqRope.f k t353 t340).bind fun t370 => (if t370 = true then ((laws_markRope.f k t353 1).bind fun bt371 => ((laws_heldRope.f k bt371.2 1).bind fun t373 => (if t373 < 0 then (none) else (if t373 = bt371.1 then ((laws_toMemory.f k l0_0).bind fun t374 => ((laws_toRope.f k l1_0).bind fun t377 => ((impl_PartText.f k t374 t377 a2 a3).bind fun bt380 => ((laws_eqRope.f k bt380.1 t340).bind fun t385 => (if t385 = true then (if (bt380.2 != t343) = true then (none) else ((laws_heldRope.f k bt371.2 1).bind fun t386 => (if t386 < 0 then (none) else (if t386 = bt371.1 then (some true) else (none))))) else (none)))))) else (none))))) else (none)))))) else (none)))) else (none))) = some r := H
     have A30 := Aside0.mk A300
     clear A300
     replace H := Option.bind_eq_some_iff.mp H
     obtain ⟨t362, A310, H⟩ := H
     replace H : (if t362 = true then ((laws_toRope.f k l1_0).bind fun t363 => ((laws_eqRope.f k t349 t363).bind fun t366 => (if t366 = true then ((laws_markMemory.f k t345 1).bind fun t367 => ((laws_markRope.f k t349 t367).bind fun bt368 => (if bt368.1 < 0 then (none) else ((laws_eqRope.f k t353 t340).bind fun t370 => (if t370 = true then ((laws_markRope.f k t353 1).bind fun bt371 => ((laws_heldRope.f k bt371.2 1).bind fun t373 => (if t373 < 0 then (none) else (if t373 = bt371.1 then ((laws_toMemory.f k l0_0).bind fun t374 => ((laws_toRope.f k l1_0).bind fun t377 => ((impl_PartText.f k t374 t377 a2 a3).bind fun bt380 => ((laws_eqRope.f k bt380.1 t340).bind fun t385 => (if t385 = true then (if (bt380.2 != t343) = true then (none) else ((laws_heldRope.f k bt371.2 1).bind fun t386 => (if t386 < 0 then (none) else (if t386 = bt371.1 then (some true) else (none))))) else (none)))))) else (none))))) else (none)))))) else (none)))) else (none)) = some r := H
     have A31 := Aside0.mk A310
     clear A310
     by_cases c32 : t362 = true
     ·subst c32
      have H1 : ((laws_toRope.f k l1_0).bind fun t363 => ((laws_eqRope.f k t349 t363).bind fun t366 => (if t366 = true then ((laws_markMemory.f k t345 1).bind fun t367 => ((laws_markRope.f k t349 t367).bind fun bt368 => (if bt368.1 < 0 then (none) else ((laws_eqRope.f k t353 t340).bind fun t370 => (if t370 = true then ((laws_markRope.f k t353 1).bind fun bt371 => ((laws_heldRope.f k bt371.2 1).bind fun t373 => (if t373 < 0 then (none) else (if t373 = bt371.1 then ((laws_toMemory.f k l0_0).bind fun t374 => ((laws_toRope.f k l1_0).bind fun t377 => ((impl_PartText.f k t374 t377 a2 a3).bind fun bt380 => ((laws_eqRope.f k bt380.1 t340).bind fun t385 => (if t385 = true then (if (bt380.2 != t343) = true then (none) else ((laws_heldRope.f k bt371.2 1).bind fun t386 => (if t386 < 0 then (none) else (if t386 = bt371.1 then (some true) else (none))))) else (none)))))) else (none))))) else (none)))))) else (none)))) = some r := by rw [if_pos rfl] at H; exact H
      clear H
      have H := H1
      clear H1
      replace H := Option.bind_eq_some_iff.mp H
      obtain ⟨t363, A330, H⟩ := H
      replace H : ((laws_eqRope.f k t349 t363).bind fun t366 => (if t366 = true then ((laws_markMemory.f k t345 1).bind fun t367 => ((laws_markRope.f k t349 t367).bind fun bt368 => (if bt368.1 < 0 then (none) else ((laws_eqRope.f k t353 t340).bind fun t370 => (if t370 = true then ((laws_markRope.f k t353 1).bind fun bt371 => ((laws_heldRope.f k bt371.2 1).bind fun t373 => (if t373 < 0 then (none) else (if t373 = bt371.1 then ((laws_toMemory.f k l0_0).bind fun t374 => ((laws_toRope.f k l1_0).bind fun t377 => ((impl_PartText.f k t374 t377 a2 a3).bind fun bt380 => ((laws_eqRope.f k bt380.1 t340).bind fun t385 => (if t385 = true then (if (bt380.2 != t343) = true then (none) else ((laws_heldRope.f k bt371.2 1).bind fun t386 => (if t386 < 0 then (none) else (if t386 = bt371.1 then (some true) else (none))))) else (none)))))) else (none))))) else (none)))))) else (none))) = some r := H
      have A33 := Aside0.mk A330
      clear A330
      replace H := Option.bind_eq_some_iff.mp H
      obtain ⟨t366, A340, H⟩ := H
      replace H : (if t366 = true then ((laws_markMemory.f k t345 1).bind fun t367 => ((laws_markRope.f k t349 t367).bind fun bt368 => (if bt368.1 < 0 then (none) else ((laws_eqRope.f k t353 t340).bind fun t370 => (if t370 = true then ((laws_markRope.f k t353 1).bind fun bt371 => ((laws_heldRope.f k bt371.2 1).bind fun t373 => (if t373 < 0 then (none) else (if t373 = bt371.1 then ((laws_toMemory.f k l0_0).bind fun t374 => ((laws_toRope.f k l1_0).bind fun t377 => ((impl_PartText.f k t374 t377 a2 a3).bind fun bt380 => ((laws_eqRope.f k bt380.1 t340).bind fun t385 => (if t385 = true then (if (bt380.2 != t343) = true then (none) else ((laws_heldRope.f k bt371.2 1).bind fun t386 => (if t386 < 0 then (none) else (if t386 = bt371.1 then (some true) else (none))))) else (none)))))) else (none))))) else (none)))))) else (none)) = some r := H
      have A34 := Aside0.mk A340
      clear A340
      by_cases c35 : t366 = true
      ·subst c35
       have H1 : ((laws_markMemory.f k t345 1).bind fun t367 => ((laws_markRope.f k t349 t367).bind fun bt368 => (if bt368.1 < 0 then (none) else ((laws_eqRope.f k t353 t340).bind fun t370 => (if t370 = true then ((laws_markRope.f k t353 1).bind fun bt371 => ((laws_heldRope.f k bt371.2 1).bind fun t373 => (if t373 < 0 then (none) else (if t373 = bt371.1 then ((laws_toMemory.f k l0_0).bind fun t374 => ((laws_toRope.f k l1_0).bind fun t377 => ((impl_PartText.f k t374 t377 a2 a3).bind fun bt380 => ((laws_eqRope.f k bt380.1 t340).bind fun t385 => (if t385 = true then (if (bt380.2 != t343) = true then (none) else ((laws_heldRope.f k bt371.2 1).bind fun t386 => (if t386 < 0 then (none) else (if t386 = bt371.1 then (some true) else (none))))) else (none)))))) else (none))))) else (none)))))) = some r := by rw [if_pos rfl] at H; exact H
       clear H
       have H := H1
       clear H1
       replace H := Option.bind_eq_some_iff.mp H
       obtain ⟨t367, A360, H⟩ := H
       replace H : ((laws_markRope.f k t349 t367).bind fun bt368 => (if bt368.1 < 0 then (none) else ((laws_eqRope.f k t353 t340).bind fun t370 => (if t370 = true then ((laws_markRope.f k t353 1).bind fun bt371 => ((laws_heldRope.f k bt371.2 1).bind fun t373 => (if t373 < 0 then (none) else (if t373 = bt371.1 then ((laws_toMemory.f k l0_0).bind fun t374 => ((laws_toRope.f k l1_0).bind fun t377 => ((impl_PartText.f k t374 t377 a2 a3).bind fun bt380 => ((laws_eqRope.f k bt380.1 t340).bind fun t385 => (if t385 = true then (if (bt380.2 != t343) = true then (none) else ((laws_heldRope.f k bt371.2 1).bind fun t386 => (if t386 < 0 then (none) else (if t386 = bt371.1 then (some true) else (none))))) else (none)))))) else (none))))) else (none))))) = some r := H
       have A36 := Aside0.mk A360
       clear A360
       replace H := Option.bind_eq_some_iff.mp H
       obtain ⟨⟨t368, t369⟩, A370, H⟩ := H
       replace H : (if t368 < 0 then (none) else ((laws_eqRope.f k t353 t340).bind fun t370 => (if t370 = true then ((laws_markRope.f k t353 1).bind fun bt371 => ((laws_heldRope.f k bt371.2 1).bind fun t373 => (if t373 < 0 then (none) else (if t373 = bt371.1 then ((laws_toMemory.f k l0_0).bind fun t374 => ((laws_toRope.f k l1_0).bind fun t377 => ((impl_PartText.f k t374 t377 a2 a3).bind fun bt380 => ((laws_eqRope.f k bt380.1 t340).bind fun t385 => (if t385 = true then (if (bt380.2 != t343) = true then (none) else ((laws_heldRope.f k bt371.2 1).bind fun t386 => (if t386 < 0 then (none) else (if t386 = bt371.1 then (some true) else (none))))) else (none)))))) else (none))))) else (none)))) = some r := H
       have A37 := Aside0.mk A370
       clear A370
       by_cases c38 : t368 < 0
       ·rw [if_pos c38] at H
        exact absurd H (by simp)
       ·rw [if_neg c38] at H
        have c38b0 : decide (t368 < 0) = false := decide_eq_false c38
        clear c38
        replace H := Option.bind_eq_some_iff.mp H
        obtain ⟨t370, A390, H⟩ := H
        replace H : (if t370 = true then ((laws_markRope.f k t353 1).bind fun bt371 => ((laws_heldRope.f k bt371.2 1).bind fun t373 => (if t373 < 0 then (none) else (if t373 = bt371.1 then ((laws_toMemory.f k l0_0).bind fun t374 => ((laws_toRope.f k l1_0).bind fun t377 => ((impl_PartText.f k t374 t377 a2 a3).bind fun bt380 => ((laws_eqRope.f k bt380.1 t340).bind fun t385 => (if t385 = true then (if (bt380.2 != t343) = true then (none) else ((laws_heldRope.f k bt371.2 1).bind fun t386 => (if t386 < 0 then (none) else (if t386 = bt371.1 then (some true) else (none))))) else (none)))))) else (none))))) else (none)) = some r := H
        have A39 := Aside0.mk A390
        clear A390
        by_cases c40 : t370 = true
        ·subst c40
         have H1 : ((laws_markRope.f k t353 1).bind fun bt371 => ((laws_heldRope.f k bt371.2 1).bind fun t373 => (if t373 < 0 then (none) else (if t373 = bt371.1 then ((laws_toMemory.f k l0_0).bind fun t374 => ((laws_toRope.f k l1_0).bind fun t377 => ((impl_PartText.f k t374 t377 a2 a3).bind fun bt380 => ((laws_eqRope.f k bt380.1 t340).bind fun t385 => (if t385 = true then (if (bt380.2 != t343) = true then (none) else ((laws_heldRope.f k bt371.2 1).bind fun t386 => (if t386 < 0 then (none) else (if t386 = bt371.1 then (some true) else (none))))) else (none)))))) else (none))))) = some r := by rw [if_pos rfl] at H; exact H
         clear H
         have H := H1
         clear H1
         replace H := Option.bind_eq_some_iff.mp H
         obtain ⟨⟨t371, t372⟩, A410, H⟩ := H
         replace H : ((laws_heldRope.f k t372 1).bind fun t373 => (if t373 < 0 then (none) else (if t373 = t371 then ((laws_toMemory.f k l0_0).bind fun t374 => ((laws_toRope.f k l1_0).bind fun t377 => ((impl_PartText.f k t374 t377 a2 a3).bind fun bt380 => ((laws_eqRope.f k bt380.1 t340).bind fun t385 => (if t385 = true then (if (bt380.2 != t343) = true then (none) else ((laws_heldRope.f k t372 1).bind fun t386 => (if t386 < 0 then (none) else (if t386 = t371 then (some true) else (none))))) else (none)))))) else (none)))) = some r := H
         have A41 := Aside0.mk A410
         clear A410
         replace H := Option.bind_eq_some_iff.mp H
         obtain ⟨t373, A420, H⟩ := H
         replace H : (if t373 < 0 then (none) else (if t373 = t371 then ((laws_toMemory.f k l0_0).bind fun t374 => ((laws_toRope.f k l1_0).bind fun t377 => ((impl_PartText.f k t374 t377 a2 a3).bind fun bt380 => ((laws_eqRope.f k bt380.1 t340).bind fun t385 => (if t385 = true then (if (bt380.2 != t343) = true then (none) else ((laws_heldRope.f k t372 1).bind fun t386 => (if t386 < 0 then (none) else (if t386 = t371 then (some true) else (none))))) else (none)))))) else (none))) = some r := H
         have A42 := Aside0.mk A420
         clear A420
         by_cases c43 : t373 < 0
         ·rw [if_pos c43] at H
          exact absurd H (by simp)
         ·rw [if_neg c43] at H
          have c43b0 : decide (t373 < 0) = false := decide_eq_false c43
          clear c43
          by_cases c44 : t373 = t371
          ·rw [if_pos c44] at H
           have c44b0 : (t373 == t371) = true := beq_iff_eq.mpr c44
           have c44b1 : (t373 != t371) = false := bne_eq_false_iff_eq.mpr c44
           clear c44
           replace H := Option.bind_eq_some_iff.mp H
           obtain ⟨t374, A450, H⟩ := H
           replace H : ((laws_toRope.f k l1_0).bind fun t377 => ((impl_PartText.f k t374 t377 a2 a3).bind fun bt380 => ((laws_eqRope.f k bt380.1 t340).bind fun t385 => (if t385 = true then (if (bt380.2 != t343) = true then (none) else ((laws_heldRope.f k t372 1).bind fun t386 => (if t386 < 0 then (none) else (if t386 = t371 then (some true) else (none))))) else (none))))) = some r := H
           have A45 := Aside0.mk A450
           clear A450
           replace H := Option.bind_eq_some_iff.mp H
           obtain ⟨t377, A460, H⟩ := H
           replace H : ((impl_PartText.f k t374 t377 a2 a3).bind fun bt380 => ((laws_eqRope.f k bt380.1 t340).bind fun t385 => (if t385 = true then (if (bt380.2 != t343) = true then (none) else ((laws_heldRope.f k t372 1).bind fun t386 => (if t386 < 0 then (none) else (if t386 = t371 then (some true) else (none))))) else (none)))) = some r := H
           have A46 := Aside0.mk A460
           clear A460
           replace H := Option.bind_eq_some_iff.mp H
           obtain ⟨⟨t380, t383⟩, A470, H⟩ := H
           replace H : ((laws_eqRope.f k t380 t340).bind fun t385 => (if t385 = true then (if (t383 != t343) = true then (none) else ((laws_heldRope.f k t372 1).bind fun t386 => (if t386 < 0 then (none) else (if t386 = t371 then (some true) else (none))))) else (none))) = some r := H
           have A47 := Aside0.mk A470
           clear A470
           replace H := Option.bind_eq_some_iff.mp H
           obtain ⟨t385, A480, H⟩ := H
           replace H : (if t385 = true then (if (t383 != t343) = true then (none) else ((laws_heldRope.f k t372 1).bind fun t386 => (if t386 < 0 then (none) else (if t386 = t371 then (some true) else (none))))) else (none)) = some r := H
           have A48 := Aside0.mk A480
           clear A480
           by_cases c49 : t385 = true
           ·subst c49
            have H1 : (if (t383 != t343) = true then (none) else ((laws_heldRope.f k t372 1).bind fun t386 => (if t386 < 0 then (none) else (if t386 = t371 then (some true) else (none))))) = some r := by rw [if_pos rfl] at H; exact H
            clear H
            have H := H1
            clear H1
            by_cases c50 : (t383 != t343) = true
            ·rw [if_pos c50] at H
             exact absurd H (by simp)
            ·rw [if_neg c50] at H
             have c50b0 : (t383 != t343) = false := by simpa using c50
             (try (have c50b1 : decide (t383 = t343) = true := by simpa using c50))
             (try (have c50b2 : (t383 == t343) = true := by simpa using c50))
             clear c50
             replace H := Option.bind_eq_some_iff.mp H
             obtain ⟨t386, A510, H⟩ := H
             replace H : (if t386 < 0 then (none) else (if t386 = t371 then (some true) else (none))) = some r := H
             have A51 := Aside0.mk A510
             clear A510
             by_cases c52 : t386 < 0
             ·rw [if_pos c52] at H
              exact absurd H (by simp)
             ·rw [if_neg c52] at H
              have c52b0 : decide (t386 < 0) = false := decide_eq_false c52
              clear c52
              by_cases c53 : t386 = t371
              ·rw [if_pos c53] at H
               have c53b0 : (t386 == t371) = true := beq_iff_eq.mpr c53
               have c53b1 : (t386 != t371) = false := bne_eq_false_iff_eq.mpr c53
               clear c53
               obtain rfl := Option.some.inj H
               go_enter Try.func6, Try.ntmps6
               try go_wp2_with (first | ((with_reducible refine gate_dst (N := 4) rfl ?_); refine box_event ?hg (N := 4) ?hd (cs := #[.slice A0_0 l0_0.length c0_0]) (t := 24) ?hr ?_; (case hd => rfl); (case hg => rfl); (case hr => first | (go_simp; done) | (go_simp; rfl)); intro gb330 hg w54 hbox hb; have BK330 := Aside0.mk (hbox); have GW330 := zge HB hg; have GE330 := zge HB hg; replace HB := zhs HB hb; clear hb hbox hg) | ((with_reducible refine gate_dst (N := 5) rfl ?_); refine box_event ?hg (N := 5) ?hd (cs := #[.slice A1_0 l1_0.length c1_0]) (t := 27) ?hr ?_; (case hd => rfl); (case hg => rfl); (case hr => first | (go_simp; done) | (go_simp; rfl)); intro gb331 hg w55 hbox hb; have BK331 := Aside0.mk (hbox); have GW331 := zge HB hg; have GE331 := zge HB hg; have NB330_331 := znl BK330 hg; have NB331_330 := znr BK330 hg; replace BK330 := zb0 BK330 hb; replace HB := zhs HB hb; clear hb hbox hg; have hnb56 := NB330_331.out; have hnc56 := NB331_330.out; have hcz57_0 := zc0 BK330 0 rfl; have hfz57_0 := blk_frozen BK330.out 0) | ((with_reducible refine gate_callee (f := 14) rfl ?_); refine goesL_ (some 23) rfl rfl Try.func14 (by kernel_rfl) rfl #[.agg #[.slice A0_0 l0_0.length c0_0], .int .i64 1048576] rfl (by (try simp only [zq1, zq2, zq3]); first | done | rfl | (simp only [List.length_drop, List.length_take]; rfl)) ?_; (with_reducible refine (laws_szMemory.calls k _ _ l0_0 1048576 t332 _ ?side1 ?side2 A5.out).mono ?_); (case side1 => exact Kd.C_below HR0_0.out (zh0 HB)); (case side2 => exact HC0_0.out); rintro e w58 ⟨rfl, hb⟩; refine ⟨_, rfl, ?_⟩; replace BK330 := zb0 BK330 hb; replace BK331 := zb0 BK331 hb; replace HB := zhs HB hb; (try clear hb); (try clear hb2); (try clear hk); (try clear hi); have hcz59_0 := zc0 BK331 0 rfl; have hfz59_0 := blk_frozen BK331.out 0) | ((with_reducible refine gate_callee (f := 15) rfl ?_); refine goesL_ (some 28) rfl rfl Try.func15 (by kernel_rfl) rfl #[.agg #[.slice A1_0 l1_0.length c1_0], .int .i64 t332] rfl (by (try simp only [zq1, zq2, zq3]); first | done | rfl | (simp only [List.length_drop, List.length_take]; rfl)) ?_; (with_reducible refine (laws_szRope.calls _ _ l1_0 t332 t333 _ ?side1 ?side2 A12.out).mono ?_); (case side1 => exact Kd.C_below HR1_0.out (zh0 HB)); (case side2 => exact HC1_0.out); rintro e w60 ⟨rfl, hb⟩; refine ⟨_, rfl, ?_⟩; replace BK330 := zb0 BK330 hb; replace BK331 := zb0 BK331 hb; replace HB := zhs HB hb; (try clear hb); (try clear hb2); (try clear hk); (try clear hi)))
               replace BK330 := Aside0.mk (blk_drew BK330.out)
               replace BK331 := Aside0.mk (blk_drew BK331.out)
               replace HB := Aside0.mk (below_drew1 HB.out)
               refine start_ (n := 13) (S := fun w' => w'.cell? ⟨gb330, 0, none⟩ = some (.slice A0_0 l0_0.length c0_0) ∧ w'.cell? ⟨gb331, 0, none⟩ = some (.slice A1_0 l1_0.length c1_0)) (ds := []) #[zF, zF, zF, zF, zF, zF, zF, zF, zF, zF, zF, zF, zF] (by kernel_rfl) rfl rfl ⟨zc0 BK330 0 rfl, zc0 BK331 0 rfl⟩ (fun hHeld => ?_); refine with_tabW laws_FnExactPartText.tab8 laws_FnExactPartText.bits8 (fun HT_ HW_ => ?_)
               generalize w60.drew = w61 at BK330 BK331 HB hHeld ⊢
               refine pure_ (i := 4) (N := some 36) (v := ?_) (a' := ?_) #[zF, zF, zF, zF, zT, zF, zF, zF, zF, zF, zF, zF, zF] rfl rfl (any_of HT_.out (by kernel_rfl)) (fun _ _ _ h => h) (Or.inl ⟨by rfl, ?_⟩) ?_ ?_
               rotate_left
               ·intro w'
                go_simp
                with_reducible rfl
               rotate_left
               ·simp only [Act.put, zp1, zp2, zp3, i64_w, i32_w]
                rfl
               refine pure_ (i := 5) (N := some 37) (v := ?_) (a' := ?_) #[zF, zF, zF, zF, zT, zT, zF, zF, zF, zF, zF, zF, zF] rfl rfl (any_of HT_.out (by kernel_rfl)) (fun _ _ _ h => h) (Or.inl ⟨by rfl, ?_⟩) ?_ ?_
               rotate_left
               ·intro w'
                go_simp
                with_reducible rfl
               rotate_left
               ·simp only [Act.put, zp1, zp2, zp3, i64_w, i32_w]
                rfl
               refine take_ (i := 0) (N := some 32) (v := ?_) (a' := ?_) #[zT, zF, zF, zF, zT, zT, zF, zF, zF, zF, zF, zF, zF] rfl rfl (take_ofW HT_.out HW_.out (by kernel_rfl)) (fun _ _ _ h => h) (Or.inl ⟨by rfl, ?_⟩) hHeld ?_ ?_
               rotate_left
               ·rintro w' ⟨s0, s1⟩
                go_simp
                with_reducible rfl
               rotate_left
               ·simp only [Act.put, zp1, zp2, zp3, i64_w, i32_w]
                rfl
               refine take_ (i := 2) (N := some 34) (v := ?_) (a' := ?_) #[zT, zF, zT, zF, zT, zT, zF, zF, zF, zF, zF, zF, zF] rfl rfl (take_ofW HT_.out HW_.out (by kernel_rfl)) (fun _ _ _ h => h) (Or.inl ⟨by rfl, ?_⟩) hHeld ?_ ?_
               rotate_left
               ·rintro w' ⟨s0, s1⟩
                go_simp
                with_reducible rfl
               rotate_left
               ·simp only [Act.put, zp1, zp2, zp3, i64_w, i32_w]
                rfl
               refine join_ (σ := Value × Value × Value × Nat) 2 #[zT, zT, zT, zT, zT, zT, zT, zT, zT, zT, zT, zF, zF] (fun s_ => [(33, .agg #[s_.1]), (35, .agg #[s_.2.1]), (38, .tuple #[.agg #[s_.2.2.1], .bool t343]), (10, .pointer (some ⟨s_.2.2.2, 0, none⟩)), (31, .tuple #[.agg #[s_.2.2.1], .bool t343]), (39, .agg #[s_.2.2.1]), (40, .bool t343)]) (fun s_ w' => (w'.cell? ⟨gb330, 0, none⟩ = some (.slice A0_0 l0_0.length c0_0) ∧ w'.cell? ⟨gb331, 0, none⟩ = some (.slice A1_0 l1_0.length c1_0)) ∧ (Kd.S (Kd.slice 5 (Kd.int .u8)) 97 w' w.heap.size (fun _ => True) s_.1 t334) ∧ (Kd.R k60 60 w' w.heap.size (fun k_ => some k_ ≠ (s_.2.2.1 : Value).ownBlock) s_.2.1 t337) ∧ (Kd.R k60 60 w' w.heap.size (fun k_ => some k_ ≠ (s_.2.1 : Value).ownBlock) s_.2.2.1 t340) ∧ (w'.heap[gb330]? = some (.cells #[.slice A0_0 l0_0.length c0_0] 24 (0, 0))) ∧ (w'.heap[gb331]? = some (.cells #[.slice A1_0 l1_0.length c1_0] 27 (0, 0))) ∧ (w'.heap[s_.2.2.2]? = some (.cells #[.slice none 0 0] 32 (0, 0))) ∧ (w.heap.size ≤ s_.2.2.2) ∧ (w.heap.size ≤ s_.2.2.2) ∧ (gb330 ≠ s_.2.2.2) ∧ (s_.2.2.2 ≠ gb330) ∧ (gb331 ≠ s_.2.2.2) ∧ (s_.2.2.2 ≠ gb331) ∧ (Below w.heap.size w w')) ?_ ?_
               rotate_left
               ·intro hCont
                refine two_ (i := 1) (j := 10) (Ni := some 33) (Nj := some 10) #[zT, zT, zT, zF, zT, zT, zF, zF, zF, zF, zF, zF, zF] #[zT, zF, zT, zF, zT, zT, zF, zF, zF, zF, zT, zF, zF] rfl rfl rfl rfl (two_of HT_.out (by kernel_rfl)) (by decide) (by decide) (fun K hK => ?_) (fun K hK => ?_)
                ·skip
                 refine goes_ Try.func17 (by kernel_rfl) rfl #[.agg #[.slice A0_0 l0_0.length c0_0]] (by rfl) rfl rfl (by (try simp only [zq1, zq2, zq3]); first | done | rfl | (simp only [List.length_drop, List.length_take]; rfl)) ?_
                 with_reducible refine (laws_toMemory.calls k _ _ l0_0 t334 _ ?side1 ?side2 A21.out).mono ?_
                 (case side1 => exact Kd.C_below HR0_0.out (zh0 HB))
                 (case side2 => exact HC0_0.out)
                 rintro e w62 ⟨v335, rfl, ho0, hb⟩
                 refine ⟨_, rfl, ?_⟩
                 have HO336 := Aside0.mk (Kd.S_lower ho0 (below_size (zh0 HB)))
                 replace BK330 := zb0 BK330 hb
                 replace BK331 := zb0 BK331 hb
                 replace HB := zhs HB hb
                 (try clear hb)
                 (try clear hb2)
                 (try clear hk)
                 (try clear hi)
                 (try clear ho0)
                 refine hK.out _ _ ⟨zc0 BK330 0 rfl, zc0 BK331 0 rfl⟩ (fun hHeld => ?_)
                 clear hK K
                 refine norm_ (a' := ?_) ?_ ?_
                 rotate_left
                 ·show Act.put _ (some 33) _ = _
                  simp only [Act.put, zp1, zp2, zp3, i64_w, i32_w]
                  rfl
                 refine two_ (i := 3) (j := 10) (Ni := some 35) (Nj := some 10) #[zT, zT, zT, zT, zT, zT, zF, zF, zF, zF, zF, zF, zF] #[zT, zT, zT, zF, zT, zT, zF, zF, zF, zF, zT, zF, zF] rfl rfl rfl rfl (two_of HT_.out (by kernel_rfl)) (by decide) (by decide) (fun K hK => ?_) (fun K hK => ?_)
                 ·skip
                  refine goes_ Try.func18 (by kernel_rfl) rfl #[.agg #[.slice A1_0 l1_0.length c1_0]] (by rfl) rfl rfl (by (try simp only [zq1, zq2, zq3]); first | done | rfl | (simp only [List.length_drop, List.length_take]; rfl)) ?_
                  with_reducible refine (laws_toRope.calls k _ _ l1_0 t337 _ ?side1 ?side2 A22.out).mono ?_
                  (case side1 => exact Kd.C_below HR1_0.out (zh0 HB))
                  (case side2 => exact HC1_0.out)
                  rintro e w63 ⟨v338, rfl, ho0, hb⟩
                  refine ⟨_, rfl, ?_⟩
                  have HO339 := Aside0.mk (Kd.R_lower ho0 (below_size (zh0 HB)))
                  replace HO336 := zsb HO336 hb
                  replace BK330 := zb0 BK330 hb
                  replace BK331 := zb0 BK331 hb
                  replace HB := zhs HB hb
                  (try clear hb)
                  (try clear hb2)
                  (try clear hk)
                  (try clear hi)
                  (try clear ho0)
                  obtain ⟨Ao64, co64, eo64⟩ := Kd.S_slice HO336.out
                  (first | subst eo64 | (injection eo64 with f1_ f2_ f3_; have f4_ := f1_.symm; have f5_ := f3_.symm; clear f1_ f2_ f3_; subst f4_; subst f5_))
                  obtain ⟨Ao65, co65, eo65⟩ := Kd.R_slice HO339.out
                  (first | subst eo65 | (injection eo65 with f1_ f2_ f3_; have f4_ := f1_.symm; have f5_ := f3_.symm; clear f1_ f2_ f3_; subst f4_; subst f5_))
                  refine hK.out _ _ ⟨zc0 BK330 0 rfl, zc0 BK331 0 rfl⟩ (fun hHeld => ?_)
                  clear hK K
                  refine norm_ (a' := ?_) ?_ ?_
                  rotate_left
                  ·show Act.put _ (some 35) _ = _
                   simp only [Act.put, zp1, zp2, zp3, i64_w, i32_w]
                   rfl
                  refine two_ (i := 6) (j := 10) (Ni := some 38) (Nj := some 10) #[zT, zT, zT, zT, zT, zT, zT, zF, zF, zF, zF, zF, zF] #[zT, zT, zT, zT, zT, zT, zF, zF, zF, zF, zT, zF, zF] rfl rfl rfl rfl (two_of HT_.out (by kernel_rfl)) (by decide) (by decide) (fun K hK => ?_) (fun K hK => ?_)
                  ·skip
                   refine goes_ Try.func29 (by kernel_rfl) rfl #[.agg #[.slice Ao64 t334.length co64], .agg #[.slice Ao65 t337.length co65], .int .i64 a2, .int .i64 a3] (by rfl) rfl rfl (by (try simp only [zq1, zq2, zq3]); first | done | rfl | (simp only [List.length_drop, List.length_take]; rfl)) ?_
                   with_reducible refine (spec_PartText.calls k _ _ t334 _ _ t337 a2 a3 t340 t343 _ ?side1 ?side2 ?side3 ?side4 A23.out).mono ?_
                   (case side1 => repeat (first | exact (Kd.S_reads' HO336.out).2.2 | (with_reducible refine Kd.C_alloc ?_ _) | (with_reducible refine Kd.C_drewN ?_ _) | (with_reducible refine Kd.C_drew ?_)))
                   (case side2 => exact (Kd.S_reads' HO336.out).2.1)
                   (case side3 => repeat (first | exact (Kd.R_reads' HO339.out).2.2 | (with_reducible refine Kd.C_alloc ?_ _) | (with_reducible refine Kd.C_drewN ?_ _) | (with_reducible refine Kd.C_drew ?_)))
                   (case side4 => exact (Kd.R_reads' HO339.out).2.1)
                   rintro e w66 ⟨v341, rfl, ho0, hb⟩
                   refine ⟨_, rfl, ?_⟩
                   have HO342 := Aside0.mk (Kd.R_lower (Kd.R_new' ho0 (Kd.R_lt (zr0 HO339))) (below_size (zh0 HB)))
                   replace HO336 := zsb HO336 hb
                   replace HO339 := Aside0.mk (Kd.R_elder' (zr0 HO339) (Kd.R_base ho0) hb)
                   replace BK330 := zb0 BK330 hb
                   replace BK331 := zb0 BK331 hb
                   replace HB := zhs HB hb
                   (try clear hb)
                   (try clear hb2)
                   (try clear hk)
                   (try clear hi)
                   (try clear ho0)
                   refine hK.out _ _ ⟨zc0 BK330 0 rfl, zc0 BK331 0 rfl⟩ (fun hHeld => ?_)
                   clear hK K
                   refine norm_ (a' := ?_) ?_ ?_
                   rotate_left
                   ·show Act.put _ (some 38) _ = _
                    simp only [Act.put, zp1, zp2, zp3, i64_w, i32_w]
                    rfl
                   refine pure_ (i := 7) (N := some 31) (v := ?_) (a' := ?_) #[zT, zT, zT, zT, zT, zT, zT, zT, zF, zF, zF, zF, zF] rfl rfl (any_of HT_.out (by kernel_rfl)) (fun _ _ _ h => h) (Or.inl ⟨by rfl, ?_⟩) ?_ ?_
                   rotate_left
                   ·intro w'
                    go_simp
                    with_reducible rfl
                   rotate_left
                   ·simp only [Act.put, zp1, zp2, zp3, i64_w, i32_w]
                    rfl
                   refine pure_ (i := 8) (N := some 39) (v := ?_) (a' := ?_) #[zT, zT, zT, zT, zT, zT, zT, zT, zT, zF, zF, zF, zF] rfl rfl (any_of HT_.out (by kernel_rfl)) (fun _ _ _ h => h) (Or.inl ⟨by rfl, ?_⟩) ?_ ?_
                   rotate_left
                   ·intro w'
                    go_simp
                    with_reducible rfl
                   rotate_left
                   ·simp only [Act.put, zp1, zp2, zp3, i64_w, i32_w]
                    rfl
                   refine pure_ (i := 9) (N := some 40) (v := ?_) (a' := ?_) #[zT, zT, zT, zT, zT, zT, zT, zT, zT, zT, zF, zF, zF] rfl rfl (any_of HT_.out (by kernel_rfl)) (fun _ _ _ h => h) (Or.inl ⟨by rfl, ?_⟩) ?_ ?_
                   rotate_left
                   ·intro w'
                    go_simp
                    with_reducible rfl
                   rotate_left
                   ·simp only [Act.put, zp1, zp2, zp3, i64_w, i32_w]
                    rfl
                   refine one_ (i := 10) (N := some 10) #[zT, zT, zT, zT, zT, zT, zT, zT, zT, zT, zT, zF, zF] rfl rfl (one_of HT_.out (by kernel_rfl)) (by decide) (fun K hK => ?_)
                   refine box_step ?hg (N := 10) ?hd (cs := #[.slice none 0 0]) (t := 32) ?hr ?_; (case hd => rfl); (case hg => rfl); (case hr => first | (go_simp; done) | (go_simp; rfl))
                   intro gb344 hg w67 hbox hb
                   have BK344 := Aside0.mk (hbox)
                   have GW344 := zge HB hg
                   have GE344 := zge HB hg
                   have NB330_344 := znl BK330 hg
                   have NB344_330 := znr BK330 hg
                   have NB331_344 := znl BK331 hg
                   have NB344_331 := znr BK331 hg
                   replace HO336 := zsb HO336 hb
                   replace HO339 := zrb HO339 hb
                   replace HO342 := zrb HO342 hb
                   replace BK330 := zb0 BK330 hb
                   replace BK331 := zb0 BK331 hb
                   replace HB := zhs HB hb
                   clear hb hbox hg
                   refine hK.out _ _ ⟨zc0 BK330 0 rfl, zc0 BK331 0 rfl⟩ (fun hHeld => ?_)
                   clear hK K
                   refine norm_ (a' := ?_) ?_ ?_
                   rotate_left
                   ·show Act.put _ (some 10) _ = _
                    simp only [Act.put, zp1, zp2, zp3, i64_w, i32_w]
                    rfl
                   exact norm_ (by simp only [putAll, Act.put, zp1, zp2, zp3]) (hCont (.slice Ao64 t334.length co64, .slice Ao65 t337.length co65, v341, gb344) _ ⟨hHeld, (zs0 HO336), (by (with_reducible repeat (first | apply Kd.R_alloc | apply Kd.R_drewN | apply Kd.R_drew)); exact Kd.R_mono HO339.out (fun _ hk => hk.2)), (by (with_reducible repeat (first | apply Kd.R_alloc | apply Kd.R_drewN | apply Kd.R_drew)); exact Kd.R_mono HO342.out (fun _ hk => hk.2)), (zk0 BK330), (zk0 BK331), (zk0 BK344), GW344.out, GE344.out, NB330_344.out, NB344_330.out, NB331_344.out, NB344_331.out, (zh0 HB)⟩)
                  ·skip
                   refine box_step ?hg (N := 10) ?hd (cs := #[.slice none 0 0]) (t := 32) ?hr ?_; (case hd => rfl); (case hg => rfl); (case hr => first | (go_simp; done) | (go_simp; rfl))
                   intro gb344 hg w64 hbox hb
                   have BK344 := Aside0.mk (hbox)
                   have GW344 := zge HB hg
                   have GE344 := zge HB hg
                   have NB330_344 := znl BK330 hg
                   have NB344_330 := znr BK330 hg
                   have NB331_344 := znl BK331 hg
                   have NB344_331 := znr BK331 hg
                   replace HO336 := zsb HO336 hb
                   replace HO339 := zrb HO339 hb
                   replace BK330 := zb0 BK330 hb
                   replace BK331 := zb0 BK331 hb
                   replace HB := zhs HB hb
                   clear hb hbox hg
                   obtain ⟨Ao65, co65, eo65⟩ := Kd.S_slice HO336.out
                   (first | subst eo65 | (injection eo65 with f1_ f2_ f3_; have f4_ := f1_.symm; have f5_ := f3_.symm; clear f1_ f2_ f3_; subst f4_; subst f5_))
                   obtain ⟨Ao66, co66, eo66⟩ := Kd.R_slice HO339.out
                   (first | subst eo66 | (injection eo66 with f1_ f2_ f3_; have f4_ := f1_.symm; have f5_ := f3_.symm; clear f1_ f2_ f3_; subst f4_; subst f5_))
                   refine hK.out _ _ ⟨zc0 BK330 0 rfl, zc0 BK331 0 rfl⟩ (fun hHeld => ?_)
                   clear hK K
                   refine norm_ (a' := ?_) ?_ ?_
                   rotate_left
                   ·show Act.put _ (some 10) _ = _
                    simp only [Act.put, zp1, zp2, zp3, i64_w, i32_w]
                    rfl
                   refine one_ (i := 6) (N := some 38) #[zT, zT, zT, zT, zT, zT, zT, zF, zF, zF, zT, zF, zF] rfl rfl (one_of HT_.out (by kernel_rfl)) (by decide) (fun K hK => ?_)
                   refine goes_ Try.func29 (by kernel_rfl) rfl #[.agg #[.slice Ao65 t334.length co65], .agg #[.slice Ao66 t337.length co66], .int .i64 a2, .int .i64 a3] (by rfl) rfl rfl (by (try simp only [zq1, zq2, zq3]); first | done | rfl | (simp only [List.length_drop, List.length_take]; rfl)) ?_
                   with_reducible refine (spec_PartText.calls k _ _ t334 _ _ t337 a2 a3 t340 t343 _ ?side1 ?side2 ?side3 ?side4 A23.out).mono ?_
                   (case side1 => repeat (first | exact (Kd.S_reads' HO336.out).2.2 | (with_reducible refine Kd.C_alloc ?_ _) | (with_reducible refine Kd.C_drewN ?_ _) | (with_reducible refine Kd.C_drew ?_)))
                   (case side2 => exact (Kd.S_reads' HO336.out).2.1)
                   (case side3 => repeat (first | exact (Kd.R_reads' HO339.out).2.2 | (with_reducible refine Kd.C_alloc ?_ _) | (with_reducible refine Kd.C_drewN ?_ _) | (with_reducible refine Kd.C_drew ?_)))
                   (case side4 => exact (Kd.R_reads' HO339.out).2.1)
                   rintro e w67 ⟨v341, rfl, ho0, hb⟩
                   refine ⟨_, rfl, ?_⟩
                   have HO342 := Aside0.mk (Kd.R_lower (Kd.R_new' ho0 (Kd.R_lt (zr0 HO339))) (below_size (zh0 HB)))
                   replace HO336 := zsb HO336 hb
                   replace HO339 := Aside0.mk (Kd.R_elder' (zr0 HO339) (Kd.R_base ho0) hb)
                   replace BK330 := zb0 BK330 hb
                   replace BK331 := zb0 BK331 hb
                   replace BK344 := zb0 BK344 hb
                   replace HB := zhs HB hb
                   (try clear hb)
                   (try clear hb2)
                   (try clear hk)
                   (try clear hi)
                   (try clear ho0)
                   refine hK.out _ _ ⟨zc0 BK330 0 rfl, zc0 BK331 0 rfl⟩ (fun hHeld => ?_)
                   clear hK K
                   refine norm_ (a' := ?_) ?_ ?_
                   rotate_left
                   ·show Act.put _ (some 38) _ = _
                    simp only [Act.put, zp1, zp2, zp3, i64_w, i32_w]
                    rfl
                   refine pure_ (i := 7) (N := some 31) (v := ?_) (a' := ?_) #[zT, zT, zT, zT, zT, zT, zT, zT, zF, zF, zT, zF, zF] rfl rfl (any_of HT_.out (by kernel_rfl)) (fun _ _ _ h => h) (Or.inl ⟨by rfl, ?_⟩) ?_ ?_
                   rotate_left
                   ·intro w'
                    go_simp
                    with_reducible rfl
                   rotate_left
                   ·simp only [Act.put, zp1, zp2, zp3, i64_w, i32_w]
                    rfl
                   refine pure_ (i := 8) (N := some 39) (v := ?_) (a' := ?_) #[zT, zT, zT, zT, zT, zT, zT, zT, zT, zF, zT, zF, zF] rfl rfl (any_of HT_.out (by kernel_rfl)) (fun _ _ _ h => h) (Or.inl ⟨by rfl, ?_⟩) ?_ ?_
                   rotate_left
                   ·intro w'
                    go_simp
                    with_reducible rfl
                   rotate_left
                   ·simp only [Act.put, zp1, zp2, zp3, i64_w, i32_w]
                    rfl
                   refine pure_ (i := 9) (N := some 40) (v := ?_) (a' := ?_) #[zT, zT, zT, zT, zT, zT, zT, zT, zT, zT, zT, zF, zF] rfl rfl (any_of HT_.out (by kernel_rfl)) (fun _ _ _ h => h) (Or.inl ⟨by rfl, ?_⟩) ?_ ?_
                   rotate_left
                   ·intro w'
                    go_simp
                    with_reducible rfl
                   rotate_left
                   ·simp only [Act.put, zp1, zp2, zp3, i64_w, i32_w]
                    rfl
                   exact norm_ (by simp only [putAll, Act.put, zp1, zp2, zp3]) (hCont (.slice Ao65 t334.length co65, .slice Ao66 t337.length co66, v341, gb344) _ ⟨hHeld, (zs0 HO336), (by (with_reducible repeat (first | apply Kd.R_alloc | apply Kd.R_drewN | apply Kd.R_drew)); exact Kd.R_mono HO339.out (fun _ hk => hk.2)), (by (with_reducible repeat (first | apply Kd.R_alloc | apply Kd.R_drewN | apply Kd.R_drew)); exact Kd.R_mono HO342.out (fun _ hk => hk.2)), (zk0 BK330), (zk0 BK331), (zk0 BK344), GW344.out, GE344.out, NB330_344.out, NB344_330.out, NB331_344.out, NB344_331.out, (zh0 HB)⟩)
                 ·skip
                  refine box_step ?hg (N := 10) ?hd (cs := #[.slice none 0 0]) (t := 32) ?hr ?_; (case hd => rfl); (case hg => rfl); (case hr => first | (go_simp; done) | (go_simp; rfl))
                  intro gb344 hg w63 hbox hb
                  have BK344 := Aside0.mk (hbox)
                  have GW344 := zge HB hg
                  have GE344 := zge HB hg
                  have NB330_344 := znl BK330 hg
                  have NB344_330 := znr BK330 hg
                  have NB331_344 := znl BK331 hg
                  have NB344_331 := znr BK331 hg
                  replace HO336 := zsb HO336 hb
                  replace BK330 := zb0 BK330 hb
                  replace BK331 := zb0 BK331 hb
                  replace HB := zhs HB hb
                  clear hb hbox hg
                  refine hK.out _ _ ⟨zc0 BK330 0 rfl, zc0 BK331 0 rfl⟩ (fun hHeld => ?_)
                  clear hK K
                  refine norm_ (a' := ?_) ?_ ?_
                  rotate_left
                  ·show Act.put _ (some 10) _ = _
                   simp only [Act.put, zp1, zp2, zp3, i64_w, i32_w]
                   rfl
                  refine one_ (i := 3) (N := some 35) #[zT, zT, zT, zT, zT, zT, zF, zF, zF, zF, zT, zF, zF] rfl rfl (one_of HT_.out (by kernel_rfl)) (by decide) (fun K hK => ?_)
                  refine goes_ Try.func18 (by kernel_rfl) rfl #[.agg #[.slice A1_0 l1_0.length c1_0]] (by rfl) rfl rfl (by (try simp only [zq1, zq2, zq3]); first | done | rfl | (simp only [List.length_drop, List.length_take]; rfl)) ?_
                  with_reducible refine (laws_toRope.calls k _ _ l1_0 t337 _ ?side1 ?side2 A22.out).mono ?_
                  (case side1 => exact Kd.C_below HR1_0.out (zh0 HB))
                  (case side2 => exact HC1_0.out)
                  rintro e w64 ⟨v338, rfl, ho0, hb⟩
                  refine ⟨_, rfl, ?_⟩
                  have HO339 := Aside0.mk (Kd.R_lower ho0 (below_size (zh0 HB)))
                  replace HO336 := zsb HO336 hb
                  replace BK330 := zb0 BK330 hb
                  replace BK331 := zb0 BK331 hb
                  replace BK344 := zb0 BK344 hb
                  replace HB := zhs HB hb
                  (try clear hb)
                  (try clear hb2)
                  (try clear hk)
                  (try clear hi)
                  (try clear ho0)
                  obtain ⟨Ao65, co65, eo65⟩ := Kd.S_slice HO336.out
                  (first | subst eo65 | (injection eo65 with f1_ f2_ f3_; have f4_ := f1_.symm; have f5_ := f3_.symm; clear f1_ f2_ f3_; subst f4_; subst f5_))
                  obtain ⟨Ao66, co66, eo66⟩ := Kd.R_slice HO339.out
                  (first | subst eo66 | (injection eo66 with f1_ f2_ f3_; have f4_ := f1_.symm; have f5_ := f3_.symm; clear f1_ f2_ f3_; subst f4_; subst f5_))
                  refine hK.out _ _ ⟨zc0 BK330 0 rfl, zc0 BK331 0 rfl⟩ (fun hHeld => ?_)
                  clear hK K
                  refine norm_ (a' := ?_) ?_ ?_
                  rotate_left
                  ·show Act.put _ (some 35) _ = _
                   simp only [Act.put, zp1, zp2, zp3, i64_w, i32_w]
                   rfl
                  refine one_ (i := 6) (N := some 38) #[zT, zT, zT, zT, zT, zT, zT, zF, zF, zF, zT, zF, zF] rfl rfl (one_of HT_.out (by kernel_rfl)) (by decide) (fun K hK => ?_)
                  refine goes_ Try.func29 (by kernel_rfl) rfl #[.agg #[.slice Ao65 t334.length co65], .agg #[.slice Ao66 t337.length co66], .int .i64 a2, .int .i64 a3] (by rfl) rfl rfl (by (try simp only [zq1, zq2, zq3]); first | done | rfl | (simp only [List.length_drop, List.length_take]; rfl)) ?_
                  with_reducible refine (spec_PartText.calls k _ _ t334 _ _ t337 a2 a3 t340 t343 _ ?side1 ?side2 ?side3 ?side4 A23.out).mono ?_
                  (case side1 => repeat (first | exact (Kd.S_reads' HO336.out).2.2 | (with_reducible refine Kd.C_alloc ?_ _) | (with_reducible refine Kd.C_drewN ?_ _) | (with_reducible refine Kd.C_drew ?_)))
                  (case side2 => exact (Kd.S_reads' HO336.out).2.1)
                  (case side3 => repeat (first | exact (Kd.R_reads' HO339.out).2.2 | (with_reducible refine Kd.C_alloc ?_ _) | (with_reducible refine Kd.C_drewN ?_ _) | (with_reducible refine Kd.C_drew ?_)))
                  (case side4 => exact (Kd.R_reads' HO339.out).2.1)
                  rintro e w67 ⟨v341, rfl, ho0, hb⟩
                  refine ⟨_, rfl, ?_⟩
                  have HO342 := Aside0.mk (Kd.R_lower (Kd.R_new' ho0 (Kd.R_lt (zr0 HO339))) (below_size (zh0 HB)))
                  replace HO336 := zsb HO336 hb
                  replace HO339 := Aside0.mk (Kd.R_elder' (zr0 HO339) (Kd.R_base ho0) hb)
                  replace BK330 := zb0 BK330 hb
                  replace BK331 := zb0 BK331 hb
                  replace BK344 := zb0 BK344 hb
                  replace HB := zhs HB hb
                  (try clear hb)
                  (try clear hb2)
                  (try clear hk)
                  (try clear hi)
                  (try clear ho0)
                  refine hK.out _ _ ⟨zc0 BK330 0 rfl, zc0 BK331 0 rfl⟩ (fun hHeld => ?_)
                  clear hK K
                  refine norm_ (a' := ?_) ?_ ?_
                  rotate_left
                  ·show Act.put _ (some 38) _ = _
                   simp only [Act.put, zp1, zp2, zp3, i64_w, i32_w]
                   rfl
                  refine pure_ (i := 7) (N := some 31) (v := ?_) (a' := ?_) #[zT, zT, zT, zT, zT, zT, zT, zT, zF, zF, zT, zF, zF] rfl rfl (any_of HT_.out (by kernel_rfl)) (fun _ _ _ h => h) (Or.inl ⟨by rfl, ?_⟩) ?_ ?_
                  rotate_left
                  ·intro w'
                   go_simp
                   with_reducible rfl
                  rotate_left
                  ·simp only [Act.put, zp1, zp2, zp3, i64_w, i32_w]
                   rfl
                  refine pure_ (i := 8) (N := some 39) (v := ?_) (a' := ?_) #[zT, zT, zT, zT, zT, zT, zT, zT, zT, zF, zT, zF, zF] rfl rfl (any_of HT_.out (by kernel_rfl)) (fun _ _ _ h => h) (Or.inl ⟨by rfl, ?_⟩) ?_ ?_
                  rotate_left
                  ·intro w'
                   go_simp
                   with_reducible rfl
                  rotate_left
                  ·simp only [Act.put, zp1, zp2, zp3, i64_w, i32_w]
                   rfl
                  refine pure_ (i := 9) (N := some 40) (v := ?_) (a' := ?_) #[zT, zT, zT, zT, zT, zT, zT, zT, zT, zT, zT, zF, zF] rfl rfl (any_of HT_.out (by kernel_rfl)) (fun _ _ _ h => h) (Or.inl ⟨by rfl, ?_⟩) ?_ ?_
                  rotate_left
                  ·intro w'
                   go_simp
                   with_reducible rfl
                  rotate_left
                  ·simp only [Act.put, zp1, zp2, zp3, i64_w, i32_w]
                   rfl
                  exact norm_ (by simp only [putAll, Act.put, zp1, zp2, zp3]) (hCont (.slice Ao65 t334.length co65, .slice Ao66 t337.length co66, v341, gb344) _ ⟨hHeld, (zs0 HO336), (by (with_reducible repeat (first | apply Kd.R_alloc | apply Kd.R_drewN | apply Kd.R_drew)); exact Kd.R_mono HO339.out (fun _ hk => hk.2)), (by (with_reducible repeat (first | apply Kd.R_alloc | apply Kd.R_drewN | apply Kd.R_drew)); exact Kd.R_mono HO342.out (fun _ hk => hk.2)), (zk0 BK330), (zk0 BK331), (zk0 BK344), GW344.out, GE344.out, NB330_344.out, NB344_330.out, NB331_344.out, NB344_331.out, (zh0 HB)⟩)
                ·skip
                 refine box_step ?hg (N := 10) ?hd (cs := #[.slice none 0 0]) (t := 32) ?hr ?_; (case hd => rfl); (case hg => rfl); (case hr => first | (go_simp; done) | (go_simp; rfl))
                 intro gb344 hg w62 hbox hb
                 have BK344 := Aside0.mk (hbox)
                 have GW344 := zge HB hg
                 have GE344 := zge HB hg
                 have NB330_344 := znl BK330 hg
                 have NB344_330 := znr BK330 hg
                 have NB331_344 := znl BK331 hg
                 have NB344_331 := znr BK331 hg
                 replace BK330 := zb0 BK330 hb
                 replace BK331 := zb0 BK331 hb
                 replace HB := zhs HB hb
                 clear hb hbox hg
                 refine hK.out _ _ ⟨zc0 BK330 0 rfl, zc0 BK331 0 rfl⟩ (fun hHeld => ?_)
                 clear hK K
                 refine norm_ (a' := ?_) ?_ ?_
                 rotate_left
                 ·show Act.put _ (some 10) _ = _
                  simp only [Act.put, zp1, zp2, zp3, i64_w, i32_w]
                  rfl
                 refine one_ (i := 1) (N := some 33) #[zT, zT, zT, zF, zT, zT, zF, zF, zF, zF, zT, zF, zF] rfl rfl (one_of HT_.out (by kernel_rfl)) (by decide) (fun K hK => ?_)
                 refine goes_ Try.func17 (by kernel_rfl) rfl #[.agg #[.slice A0_0 l0_0.length c0_0]] (by rfl) rfl rfl (by (try simp only [zq1, zq2, zq3]); first | done | rfl | (simp only [List.length_drop, List.length_take]; rfl)) ?_
                 with_reducible refine (laws_toMemory.calls k _ _ l0_0 t334 _ ?side1 ?side2 A21.out).mono ?_
                 (case side1 => exact Kd.C_below HR0_0.out (zh0 HB))
                 (case side2 => exact HC0_0.out)
                 rintro e w63 ⟨v335, rfl, ho0, hb⟩
                 refine ⟨_, rfl, ?_⟩
                 have HO336 := Aside0.mk (Kd.S_lower ho0 (below_size (zh0 HB)))
                 replace BK330 := zb0 BK330 hb
                 replace BK331 := zb0 BK331 hb
                 replace BK344 := zb0 BK344 hb
                 replace HB := zhs HB hb
                 (try clear hb)
                 (try clear hb2)
                 (try clear hk)
                 (try clear hi)
                 (try clear ho0)
                 refine hK.out _ _ ⟨zc0 BK330 0 rfl, zc0 BK331 0 rfl⟩ (fun hHeld => ?_)
                 clear hK K
                 refine norm_ (a' := ?_) ?_ ?_
                 rotate_left
                 ·show Act.put _ (some 33) _ = _
                  simp only [Act.put, zp1, zp2, zp3, i64_w, i32_w]
                  rfl
                 refine one_ (i := 3) (N := some 35) #[zT, zT, zT, zT, zT, zT, zF, zF, zF, zF, zT, zF, zF] rfl rfl (one_of HT_.out (by kernel_rfl)) (by decide) (fun K hK => ?_)
                 refine goes_ Try.func18 (by kernel_rfl) rfl #[.agg #[.slice A1_0 l1_0.length c1_0]] (by rfl) rfl rfl (by (try simp only [zq1, zq2, zq3]); first | done | rfl | (simp only [List.length_drop, List.length_take]; rfl)) ?_
                 with_reducible refine (laws_toRope.calls k _ _ l1_0 t337 _ ?side1 ?side2 A22.out).mono ?_
                 (case side1 => exact Kd.C_below HR1_0.out (zh0 HB))
                 (case side2 => exact HC1_0.out)
                 rintro e w64 ⟨v338, rfl, ho0, hb⟩
                 refine ⟨_, rfl, ?_⟩
                 have HO339 := Aside0.mk (Kd.R_lower ho0 (below_size (zh0 HB)))
                 replace HO336 := zsb HO336 hb
                 replace BK330 := zb0 BK330 hb
                 replace BK331 := zb0 BK331 hb
                 replace BK344 := zb0 BK344 hb
                 replace HB := zhs HB hb
                 (try clear hb)
                 (try clear hb2)
                 (try clear hk)
                 (try clear hi)
                 (try clear ho0)
                 obtain ⟨Ao65, co65, eo65⟩ := Kd.S_slice HO336.out
                 (first | subst eo65 | (injection eo65 with f1_ f2_ f3_; have f4_ := f1_.symm; have f5_ := f3_.symm; clear f1_ f2_ f3_; subst f4_; subst f5_))
                 obtain ⟨Ao66, co66, eo66⟩ := Kd.R_slice HO339.out
                 (first | subst eo66 | (injection eo66 with f1_ f2_ f3_; have f4_ := f1_.symm; have f5_ := f3_.symm; clear f1_ f2_ f3_; subst f4_; subst f5_))
                 refine hK.out _ _ ⟨zc0 BK330 0 rfl, zc0 BK331 0 rfl⟩ (fun hHeld => ?_)
                 clear hK K
                 refine norm_ (a' := ?_) ?_ ?_
                 rotate_left
                 ·show Act.put _ (some 35) _ = _
                  simp only [Act.put, zp1, zp2, zp3, i64_w, i32_w]
                  rfl
                 refine one_ (i := 6) (N := some 38) #[zT, zT, zT, zT, zT, zT, zT, zF, zF, zF, zT, zF, zF] rfl rfl (one_of HT_.out (by kernel_rfl)) (by decide) (fun K hK => ?_)
                 refine goes_ Try.func29 (by kernel_rfl) rfl #[.agg #[.slice Ao65 t334.length co65], .agg #[.slice Ao66 t337.length co66], .int .i64 a2, .int .i64 a3] (by rfl) rfl rfl (by (try simp only [zq1, zq2, zq3]); first | done | rfl | (simp only [List.length_drop, List.length_take]; rfl)) ?_
                 with_reducible refine (spec_PartText.calls k _ _ t334 _ _ t337 a2 a3 t340 t343 _ ?side1 ?side2 ?side3 ?side4 A23.out).mono ?_
                 (case side1 => repeat (first | exact (Kd.S_reads' HO336.out).2.2 | (with_reducible refine Kd.C_alloc ?_ _) | (with_reducible refine Kd.C_drewN ?_ _) | (with_reducible refine Kd.C_drew ?_)))
                 (case side2 => exact (Kd.S_reads' HO336.out).2.1)
                 (case side3 => repeat (first | exact (Kd.R_reads' HO339.out).2.2 | (with_reducible refine Kd.C_alloc ?_ _) | (with_reducible refine Kd.C_drewN ?_ _) | (with_reducible refine Kd.C_drew ?_)))
                 (case side4 => exact (Kd.R_reads' HO339.out).2.1)
                 rintro e w67 ⟨v341, rfl, ho0, hb⟩
                 refine ⟨_, rfl, ?_⟩
                 have HO342 := Aside0.mk (Kd.R_lower (Kd.R_new' ho0 (Kd.R_lt (zr0 HO339))) (below_size (zh0 HB)))
                 replace HO336 := zsb HO336 hb
                 replace HO339 := Aside0.mk (Kd.R_elder' (zr0 HO339) (Kd.R_base ho0) hb)
                 replace BK330 := zb0 BK330 hb
                 replace BK331 := zb0 BK331 hb
                 replace BK344 := zb0 BK344 hb
                 replace HB := zhs HB hb
                 (try clear hb)
                 (try clear hb2)
                 (try clear hk)
                 (try clear hi)
                 (try clear ho0)
                 refine hK.out _ _ ⟨zc0 BK330 0 rfl, zc0 BK331 0 rfl⟩ (fun hHeld => ?_)
                 clear hK K
                 refine norm_ (a' := ?_) ?_ ?_
                 rotate_left
                 ·show Act.put _ (some 38) _ = _
                  simp only [Act.put, zp1, zp2, zp3, i64_w, i32_w]
                  rfl
                 refine pure_ (i := 7) (N := some 31) (v := ?_) (a' := ?_) #[zT, zT, zT, zT, zT, zT, zT, zT, zF, zF, zT, zF, zF] rfl rfl (any_of HT_.out (by kernel_rfl)) (fun _ _ _ h => h) (Or.inl ⟨by rfl, ?_⟩) ?_ ?_
                 rotate_left
                 ·intro w'
                  go_simp
                  with_reducible rfl
                 rotate_left
                 ·simp only [Act.put, zp1, zp2, zp3, i64_w, i32_w]
                  rfl
                 refine pure_ (i := 8) (N := some 39) (v := ?_) (a' := ?_) #[zT, zT, zT, zT, zT, zT, zT, zT, zT, zF, zT, zF, zF] rfl rfl (any_of HT_.out (by kernel_rfl)) (fun _ _ _ h => h) (Or.inl ⟨by rfl, ?_⟩) ?_ ?_
                 rotate_left
                 ·intro w'
                  go_simp
                  with_reducible rfl
                 rotate_left
                 ·simp only [Act.put, zp1, zp2, zp3, i64_w, i32_w]
                  rfl
                 refine pure_ (i := 9) (N := some 40) (v := ?_) (a' := ?_) #[zT, zT, zT, zT, zT, zT, zT, zT, zT, zT, zT, zF, zF] rfl rfl (any_of HT_.out (by kernel_rfl)) (fun _ _ _ h => h) (Or.inl ⟨by rfl, ?_⟩) ?_ ?_
                 rotate_left
                 ·intro w'
                  go_simp
                  with_reducible rfl
                 rotate_left
                 ·simp only [Act.put, zp1, zp2, zp3, i64_w, i32_w]
                  rfl
                 exact norm_ (by simp only [putAll, Act.put, zp1, zp2, zp3]) (hCont (.slice Ao65 t334.length co65, .slice Ao66 t337.length co66, v341, gb344) _ ⟨hHeld, (zs0 HO336), (by (with_reducible repeat (first | apply Kd.R_alloc | apply Kd.R_drewN | apply Kd.R_drew)); exact Kd.R_mono HO339.out (fun _ hk => hk.2)), (by (with_reducible repeat (first | apply Kd.R_alloc | apply Kd.R_drewN | apply Kd.R_drew)); exact Kd.R_mono HO342.out (fun _ hk => hk.2)), (zk0 BK330), (zk0 BK331), (zk0 BK344), GW344.out, GE344.out, NB330_344.out, NB344_330.out, NB331_344.out, NB344_331.out, (zh0 HB)⟩)
               rintro ⟨v335, v338, v341, gb344⟩ w68 ⟨hS_, h0_, h1_, h2_, h3_, h4_, h5_, h6_, h7_, h8_, h9_, h10_, h11_, h12_⟩
               try dsimp only at hS_ h0_ h1_ h2_ h3_ h4_ h5_ h6_ h7_ h8_ h9_ h10_ h11_ h12_
               have HO336 := Aside0.mk h0_
               have HO339 := Aside0.mk h1_
               have HO342 := Aside0.mk h2_
               have BK344 := Aside0.mk h5_
               have GW344 := Aside0.mk h6_
               have GE344 := Aside0.mk h7_
               have NB330_344 := Aside0.mk h8_
               have NB344_330 := Aside0.mk h9_
               have NB331_344 := Aside0.mk h10_
               have NB344_331 := Aside0.mk h11_
               replace BK330 := Aside0.mk h3_
               replace BK331 := Aside0.mk h4_
               replace HB := Aside0.mk h12_
               clear h0_ h1_ h2_ h3_ h4_ h5_ h6_ h7_ h8_ h9_ h10_ h11_ h12_
               have hHeld := hS_
               obtain ⟨Ao69, co69, eo69⟩ := Kd.R_slice HO342.out
               (first | subst eo69 | (injection eo69 with f1_ f2_ f3_; have f4_ := f1_.symm; have f5_ := f3_.symm; clear f1_ f2_ f3_; subst f4_; subst f5_))
               refine norm_ (a' := ?_) ?_ ?_
               rotate_left
               ·simp only [putAll, Act.put, zp1, zp2, zp3]
                rfl
               refine one_ (i := 11) (N := none) #[zT, zT, zT, zT, zT, zT, zT, zT, zT, zT, zT, zT, zF] rfl rfl (one_of HT_.out (by kernel_rfl)) (by decide) (fun K hK => ?_)
               have hs70 : w68.cell? ⟨gb344, 0, none⟩ = some (.slice none 0 0) := zc0 BK344 0 rfl
               have hfs70 := blk_frozen BK344.out 0
               have hns70_0 := NB330_344.out
               have hns70_1 := NB331_344.out
               have hms70_0 := NB344_330.out
               have hms70_1 := NB344_331.out
               refine skip_ (w1 := ?_) (by rfl) rfl ?_ ?_
               rotate_left
               ·go_simp
                rfl
               refine hK.out _ _ ⟨((zfar NB330_344).trans (hHeld.1)), ((zfar NB331_344).trans (hHeld.2))⟩ (fun hHeld => ?_)
               clear hK K
               refine pure_ (i := 12) (N := some 11) (v := ?_) (a' := ?_) #[zT, zT, zT, zT, zT, zT, zT, zT, zT, zT, zT, zT, zT] rfl rfl (any_of HT_.out (by kernel_rfl)) (fun _ _ _ h => h) (Or.inl ⟨by rfl, ?_⟩) ?_ ?_
               rotate_left
               ·intro w'
                go_simp
                with_reducible rfl
               rotate_left
               ·simp only [Act.put, zp1, zp2, zp3, i64_w, i32_w]
                rfl
               refine done_ (done_of HT_.out (by kernel_rfl)) ?_
               have hnb71 := NB330_344.out
               have hnc71 := NB344_330.out
               have hcz72_0 := zc0 BK330 0 rfl
               have hfz72_0 := blk_frozen BK330.out 0
               try go_wp2_with (first | ((with_reducible refine gate_callee (f := 17) rfl ?_); refine goesL_ (some 42) rfl rfl Try.func17 (by kernel_rfl) rfl #[.agg #[.slice A0_0 l0_0.length c0_0]] rfl (by (try simp only [zq1, zq2, zq3]); first | done | rfl | (simp only [List.length_drop, List.length_take]; rfl)) ?_; (with_reducible refine (laws_toMemory.calls k _ _ l0_0 t345 _ ?side1 ?side2 A24.out).mono ?_); (case side1 => exact Kd.C_below HR0_0.out (by repeat (first | exact zh0 HB | refine below_set ?_ GE330.out | refine below_set ?_ GE331.out | refine below_set ?_ GE344.out))); (case side2 => exact HC0_0.out); rintro e w73 ⟨v346, rfl, ho0, hb⟩; refine ⟨_, rfl, ?_⟩; have HO347 := Aside0.mk (Kd.S_lower (Kd.S_new' ho0 (Kd.S_lt (by (with_reducible repeat (first | apply Kd.S_alloc | apply Kd.S_drewN | apply Kd.S_drew)); exact (Kd.S_mono (Kd.S_far (p := ⟨gb344, 0, none⟩) (Kd.S_types HO336.out BK344.out (by decide)) (fun _ hk => hk.2) (.slice Ao69 t340.length co69)) (fun _ h_ => h_.1))))) (below_size (by repeat (first | exact zh0 HB | refine below_set ?_ GE330.out | refine below_set ?_ GE331.out | refine below_set ?_ GE344.out)))); replace HO336 := Aside0.mk (Kd.S_elder' (by (with_reducible repeat (first | apply Kd.S_alloc | apply Kd.S_drewN | apply Kd.S_drew)); exact (Kd.S_mono (Kd.S_far (p := ⟨gb344, 0, none⟩) (Kd.S_types HO336.out BK344.out (by decide)) (fun _ hk => hk.2) (.slice Ao69 t340.length co69)) (fun _ h_ => h_.1))) (Kd.S_base ho0) hb); replace HO339 := Aside0.mk (Kd.R_below (by (with_reducible repeat (first | apply Kd.R_alloc | apply Kd.R_drewN | apply Kd.R_drew)); exact (Kd.R_mono (Kd.R_far (p := ⟨gb344, 0, none⟩) (Kd.R_types HO339.out BK344.out (by decide)) (fun _ hk => hk.2) (.slice Ao69 t340.length co69)) (fun _ h_ => h_.1))) hb); replace HO342 := Aside0.mk (Kd.R_below (by (with_reducible repeat (first | apply Kd.R_alloc | apply Kd.R_drewN | apply Kd.R_drew)); exact (Kd.R_mono (Kd.R_far (p := ⟨gb344, 0, none⟩) (Kd.R_types HO342.out BK344.out (by decide)) (fun _ hk => hk.2) (.slice Ao69 t340.length co69)) (fun _ h_ => h_.1))) hb); replace BK330 := Aside0.mk (blk_below (g := gb330) (o := .cells #[.slice A0_0 l0_0.length c0_0] 24 (0, 0)) (by (with_reducible repeat (first | refine blk_drewN ?_ _ | refine blk_drew ?_ | refine blk_alloc ?_ _)); refine blk_far ?_ NB330_344.out _; (with_reducible repeat (first | refine blk_drewN ?_ _ | refine blk_drew ?_ | refine blk_alloc ?_ _)); exact BK330.out) hb); replace BK331 := Aside0.mk (blk_below (g := gb331) (o := .cells #[.slice A1_0 l1_0.length c1_0] 27 (0, 0)) (by (with_reducible repeat (first | refine blk_drewN ?_ _ | refine blk_drew ?_ | refine blk_alloc ?_ _)); refine blk_far ?_ NB331_344.out _; (with_reducible repeat (first | refine blk_drewN ?_ _ | refine blk_drew ?_ | refine blk_alloc ?_ _)); exact BK331.out) hb); replace BK344 := Aside0.mk (blk_below (g := gb344) (o := .cells #[.slice Ao69 t340.length co69] 32 (0, 0)) (by (with_reducible repeat (first | refine blk_drewN ?_ _ | refine blk_drew ?_ | refine blk_alloc ?_ _)); refine blk_put (cs := #[.slice none 0 0]) ?_ 0 _ rfl; (with_reducible repeat (first | refine blk_drewN ?_ _ | refine blk_drew ?_ | refine blk_alloc ?_ _)); exact BK344.out) hb); replace HB := Aside0.mk (below_step (by repeat (first | exact zh0 HB | refine below_set ?_ GE330.out | refine below_set ?_ GE331.out | refine below_set ?_ GE344.out)) hb); (try clear hb); (try clear hb2); (try clear hk); (try clear hi); (try clear ho0)) | ((with_reducible refine gate_dst (N := 12) rfl ?_); refine box_event ?hg (N := 12) ?hd (cs := #[.slice none 0 0]) (t := 35) ?hr ?_; (case hd => rfl); (case hg => rfl); (case hr => first | (go_simp; done) | (go_simp; rfl)); intro gb348 hg w74 hbox hb; have BK348 := Aside0.mk (hbox); have GW348 := zge HB hg; have GE348 := zge HB hg; have NB330_348 := Aside0.mk ((by rw [hg]; exact Nat.ne_of_lt (blk_lt (g := gb330) (o := .cells #[.slice A0_0 l0_0.length c0_0] 24 (0, 0)) (by (with_reducible repeat (first | refine blk_drewN ?_ _ | refine blk_drew ?_ | refine blk_alloc ?_ _)); exact BK330.out)) : gb330 ≠ gb348)); have NB348_330 := Aside0.mk ((by rw [hg]; exact Nat.ne_of_gt (blk_lt (g := gb330) (o := .cells #[.slice A0_0 l0_0.length c0_0] 24 (0, 0)) (by (with_reducible repeat (first | refine blk_drewN ?_ _ | refine blk_drew ?_ | refine blk_alloc ?_ _)); exact BK330.out)) : gb348 ≠ gb330)); have NB331_348 := Aside0.mk ((by rw [hg]; exact Nat.ne_of_lt (blk_lt (g := gb331) (o := .cells #[.slice A1_0 l1_0.length c1_0] 27 (0, 0)) (by (with_reducible repeat (first | refine blk_drewN ?_ _ | refine blk_drew ?_ | refine blk_alloc ?_ _)); exact BK331.out)) : gb331 ≠ gb348)); have NB348_331 := Aside0.mk ((by rw [hg]; exact Nat.ne_of_gt (blk_lt (g := gb331) (o := .cells #[.slice A1_0 l1_0.length c1_0] 27 (0, 0)) (by (with_reducible repeat (first | refine blk_drewN ?_ _ | refine blk_drew ?_ | refine blk_alloc ?_ _)); exact BK331.out)) : gb348 ≠ gb331)); have NB344_348 := Aside0.mk ((by rw [hg]; exact Nat.ne_of_lt (blk_lt (g := gb344) (o := .cells #[.slice Ao69 t340.length co69] 32 (0, 0)) (by (with_reducible repeat (first | refine blk_drewN ?_ _ | refine blk_drew ?_ | refine blk_alloc ?_ _)); exact BK344.out)) : gb344 ≠ gb348)); have NB348_344 := Aside0.mk ((by rw [hg]; exact Nat.ne_of_gt (blk_lt (g := gb344) (o := .cells #[.slice Ao69 t340.length co69] 32 (0, 0)) (by (with_reducible repeat (first | refine blk_drewN ?_ _ | refine blk_drew ?_ | refine blk_alloc ?_ _)); exact BK344.out)) : gb348 ≠ gb344)); replace HO336 := zsb HO336 hb; replace HO339 := zrb HO339 hb; replace HO342 := zrb HO342 hb; replace HO347 := zsb HO347 hb; replace BK330 := Aside0.mk (blk_below (g := gb330) (o := .cells #[.slice A0_0 l0_0.length c0_0] 24 (0, 0)) (by (with_reducible repeat (first | refine blk_drewN ?_ _ | refine blk_drew ?_ | refine blk_alloc ?_ _)); exact BK330.out) hb); replace BK331 := Aside0.mk (blk_below (g := gb331) (o := .cells #[.slice A1_0 l1_0.length c1_0] 27 (0, 0)) (by (with_reducible repeat (first | refine blk_drewN ?_ _ | refine blk_drew ?_ | refine blk_alloc ?_ _)); exact BK331.out) hb); replace BK344 := Aside0.mk (blk_below (g := gb344) (o := .cells #[.slice Ao69 t340.length co69] 32 (0, 0)) (by (with_reducible repeat (first | refine blk_drewN ?_ _ | refine blk_drew ?_ | refine blk_alloc ?_ _)); exact BK344.out) hb); replace HB := zhs HB hb; clear hb hbox hg; obtain ⟨Ao75, co75, eo75⟩ := Kd.S_slice HO347.out; subst eo75; have hnb76 := NB348_330.out; have hnc76 := NB330_348.out; have hnb77 := NB348_331.out; have hnc77 := NB331_348.out; have hnb78 := NB348_344.out; have hnc78 := NB344_348.out; have hcz79_0 := zc0 BK348 0 rfl; have hfz79_0 := blk_frozen BK348.out 0; have hnb80 := NB331_344.out; have hnc80 := NB344_331.out; have hcz81_0 := zc0 BK331 0 rfl; have hfz81_0 := blk_frozen BK331.out 0) | ((with_reducible refine gate_callee (f := 18) rfl ?_); refine goesL_ (some 44) rfl rfl Try.func18 (by kernel_rfl) rfl #[.agg #[.slice A1_0 l1_0.length c1_0]] rfl (by (try simp only [zq1, zq2, zq3]); first | done | rfl | (simp only [List.length_drop, List.length_take]; rfl)) ?_; (with_reducible refine (laws_toRope.calls k _ _ l1_0 t349 _ ?side1 ?side2 A25.out).mono ?_); (case side1 => exact Kd.C_below HR1_0.out (by repeat (first | exact zh0 HB | refine below_set ?_ GE330.out | refine below_set ?_ GE331.out | refine below_set ?_ GE344.out | refine below_set ?_ GE348.out))); (case side2 => exact HC1_0.out); rintro e w82 ⟨v350, rfl, ho0, hb⟩; refine ⟨_, rfl, ?_⟩; have HO351 := Aside0.mk (Kd.R_lower (Kd.R_new' (Kd.R_new' ho0 (Kd.R_lt (by (with_reducible repeat (first | apply Kd.R_alloc | apply Kd.R_drewN | apply Kd.R_drew)); exact (Kd.R_mono (Kd.R_far (p := ⟨gb348, 0, none⟩) (Kd.R_types HO339.out BK348.out (by decide)) (fun _ hk => hk.2) (.slice Ao75 t345.length co75)) (fun _ h_ => h_.1))))) (Kd.R_lt (by (with_reducible repeat (first | apply Kd.R_alloc | apply Kd.R_drewN | apply Kd.R_drew)); exact (Kd.R_mono (Kd.R_far (p := ⟨gb348, 0, none⟩) (Kd.R_types HO342.out BK348.out (by decide)) (fun _ hk => hk.2) (.slice Ao75 t345.length co75)) (fun _ h_ => h_.1))))) (below_size (by repeat (first | exact zh0 HB | refine below_set ?_ GE330.out | refine below_set ?_ GE331.out | refine below_set ?_ GE344.out | refine below_set ?_ GE348.out)))); replace HO336 := Aside0.mk (Kd.S_below (by (with_reducible repeat (first | apply Kd.S_alloc | apply Kd.S_drewN | apply Kd.S_drew)); exact (Kd.S_mono (Kd.S_far (p := ⟨gb348, 0, none⟩) (Kd.S_types HO336.out BK348.out (by decide)) (fun _ hk => hk.2) (.slice Ao75 t345.length co75)) (fun _ h_ => h_.1))) hb); replace HO339 := Aside0.mk (Kd.R_elder' (by (with_reducible repeat (first | apply Kd.R_alloc | apply Kd.R_drewN | apply Kd.R_drew)); exact (Kd.R_mono (Kd.R_far (p := ⟨gb348, 0, none⟩) (Kd.R_types HO339.out BK348.out (by decide)) (fun _ hk => hk.2) (.slice Ao75 t345.length co75)) (fun _ h_ => h_.1))) (Kd.R_base ho0) hb); replace HO342 := Aside0.mk (Kd.R_elder' (by (with_reducible repeat (first | apply Kd.R_alloc | apply Kd.R_drewN | apply Kd.R_drew)); exact (Kd.R_mono (Kd.R_far (p := ⟨gb348, 0, none⟩) (Kd.R_types HO342.out BK348.out (by decide)) (fun _ hk => hk.2) (.slice Ao75 t345.length co75)) (fun _ h_ => h_.1))) (Kd.R_base ho0) hb); replace HO347 := Aside0.mk (Kd.S_below (by (with_reducible repeat (first | apply Kd.S_alloc | apply Kd.S_drewN | apply Kd.S_drew)); exact (Kd.S_mono (Kd.S_far (p := ⟨gb348, 0, none⟩) (Kd.S_types HO347.out BK348.out (by decide)) (fun _ hk => hk.2) (.slice Ao75 t345.length co75)) (fun _ h_ => h_.1))) hb); replace BK330 := Aside0.mk (blk_below (g := gb330) (o := .cells #[.slice A0_0 l0_0.length c0_0] 24 (0, 0)) (by (with_reducible repeat (first | refine blk_drewN ?_ _ | refine blk_drew ?_ | refine blk_alloc ?_ _)); refine blk_far ?_ NB330_348.out _; (with_reducible repeat (first | refine blk_drewN ?_ _ | refine blk_drew ?_ | refine blk_alloc ?_ _)); exact BK330.out) hb); replace BK331 := Aside0.mk (blk_below (g := gb331) (o := .cells #[.slice A1_0 l1_0.length c1_0] 27 (0, 0)) (by (with_reducible repeat (first | refine blk_drewN ?_ _ | refine blk_drew ?_ | refine blk_alloc ?_ _)); refine blk_far ?_ NB331_348.out _; (with_reducible repeat (first | refine blk_drewN ?_ _ | refine blk_drew ?_ | refine blk_alloc ?_ _)); exact BK331.out) hb); replace BK344 := Aside0.mk (blk_below (g := gb344) (o := .cells #[.slice Ao69 t340.length co69] 32 (0, 0)) (by (with_reducible repeat (first | refine blk_drewN ?_ _ | refine blk_drew ?_ | refine blk_alloc ?_ _)); refine blk_far ?_ NB344_348.out _; (with_reducible repeat (first | refine blk_drewN ?_ _ | refine blk_drew ?_ | refine blk_alloc ?_ _)); exact BK344.out) hb); replace BK348 := Aside0.mk (blk_below (g := gb348) (o := .cells #[.slice Ao75 t345.length co75] 35 (0, 0)) (by (with_reducible repeat (first | refine blk_drewN ?_ _ | refine blk_drew ?_ | refine blk_alloc ?_ _)); refine blk_put (cs := #[.slice none 0 0]) ?_ 0 _ rfl; (with_reducible repeat (first | refine blk_drewN ?_ _ | refine blk_drew ?_ | refine blk_alloc ?_ _)); exact BK348.out) hb); replace HB := Aside0.mk (below_step (by repeat (first | exact zh0 HB | refine below_set ?_ GE330.out | refine below_set ?_ GE331.out | refine below_set ?_ GE344.out | refine below_set ?_ GE348.out)) hb); (try clear hb); (try clear hb2); (try clear hk); (try clear hi); (try clear ho0)) | ((with_reducible refine gate_dst (N := 13) rfl ?_); refine box_event ?hg (N := 13) ?hd (cs := #[.slice none 0 0]) (t := 32) ?hr ?_; (case hd => rfl); (case hg => rfl); (case hr => first | (go_simp; done) | (go_simp; rfl)); intro gb352 hg w83 hbox hb; have BK352 := Aside0.mk (hbox); have GW352 := zge HB hg; have GE352 := zge HB hg; have NB330_352 := Aside0.mk ((by rw [hg]; exact Nat.ne_of_lt (blk_lt (g := gb330) (o := .cells #[.slice A0_0 l0_0.length c0_0] 24 (0, 0)) (by (with_reducible repeat (first | refine blk_drewN ?_ _ | refine blk_drew ?_ | refine blk_alloc ?_ _)); exact BK330.out)) : gb330 ≠ gb352)); have NB352_330 := Aside0.mk ((by rw [hg]; exact Nat.ne_of_gt (blk_lt (g := gb330) (o := .cells #[.slice A0_0 l0_0.length c0_0] 24 (0, 0)) (by (with_reducible repeat (first | refine blk_drewN ?_ _ | refine blk_drew ?_ | refine blk_alloc ?_ _)); exact BK330.out)) : gb352 ≠ gb330)); have NB331_352 := Aside0.mk ((by rw [hg]; exact Nat.ne_of_lt (blk_lt (g := gb331) (o := .cells #[.slice A1_0 l1_0.length c1_0] 27 (0, 0)) (by (with_reducible repeat (first | refine blk_drewN ?_ _ | refine blk_drew ?_ | refine blk_alloc ?_ _)); exact BK331.out)) : gb331 ≠ gb352)); have NB352_331 := Aside0.mk ((by rw [hg]; exact Nat.ne_of_gt (blk_lt (g := gb331) (o := .cells #[.slice A1_0 l1_0.length c1_0] 27 (0, 0)) (by (with_reducible repeat (first | refine blk_drewN ?_ _ | refine blk_drew ?_ | refine blk_alloc ?_ _)); exact BK331.out)) : gb352 ≠ gb331)); have NB344_352 := Aside0.mk ((by rw [hg]; exact Nat.ne_of_lt (blk_lt (g := gb344) (o := .cells #[.slice Ao69 t340.length co69] 32 (0, 0)) (by (with_reducible repeat (first | refine blk_drewN ?_ _ | refine blk_drew ?_ | refine blk_alloc ?_ _)); exact BK344.out)) : gb344 ≠ gb352)); have NB352_344 := Aside0.mk ((by rw [hg]; exact Nat.ne_of_gt (blk_lt (g := gb344) (o := .cells #[.slice Ao69 t340.length co69] 32 (0, 0)) (by (with_reducible repeat (first | refine blk_drewN ?_ _ | refine blk_drew ?_ | refine blk_alloc ?_ _)); exact BK344.out)) : gb352 ≠ gb344)); have NB348_352 := Aside0.mk ((by rw [hg]; exact Nat.ne_of_lt (blk_lt (g := gb348) (o := .cells #[.slice Ao75 t345.length co75] 35 (0, 0)) (by (with_reducible repeat (first | refine blk_drewN ?_ _ | refine blk_drew ?_ | refine blk_alloc ?_ _)); exact BK348.out)) : gb348 ≠ gb352)); have NB352_348 := Aside0.mk ((by rw [hg]; exact Nat.ne_of_gt (blk_lt (g := gb348) (o := .cells #[.slice Ao75 t345.length co75] 35 (0, 0)) (by (with_reducible repeat (first | refine blk_drewN ?_ _ | refine blk_drew ?_ | refine blk_alloc ?_ _)); exact BK348.out)) : gb352 ≠ gb348)); replace HO336 := zsb HO336 hb; replace HO339 := zrb HO339 hb; replace HO342 := zrb HO342 hb; replace HO347 := zsb HO347 hb; replace HO351 := zrb HO351 hb; replace BK330 := Aside0.mk (blk_below (g := gb330) (o := .cells #[.slice A0_0 l0_0.length c0_0] 24 (0, 0)) (by (with_reducible repeat (first | refine blk_drewN ?_ _ | refine blk_drew ?_ | refine blk_alloc ?_ _)); exact BK330.out) hb); replace BK331 := Aside0.mk (blk_below (g := gb331) (o := .cells #[.slice A1_0 l1_0.length c1_0] 27 (0, 0)) (by (with_reducible repeat (first | refine blk_drewN ?_ _ | refine blk_drew ?_ | refine blk_alloc ?_ _)); exact BK331.out) hb); replace BK344 := Aside0.mk (blk_below (g := gb344) (o := .cells #[.slice Ao69 t340.length co69] 32 (0, 0)) (by (with_reducible repeat (first | refine blk_drewN ?_ _ | refine blk_drew ?_ | refine blk_alloc ?_ _)); exact BK344.out) hb); replace BK348 := Aside0.mk (blk_below (g := gb348) (o := .cells #[.slice Ao75 t345.length co75] 35 (0, 0)) (by (with_reducible repeat (first | refine blk_drewN ?_ _ | refine blk_drew ?_ | refine blk_alloc ?_ _)); exact BK348.out) hb); replace HB := zhs HB hb; clear hb hbox hg; obtain ⟨Ao84, co84, eo84⟩ := Kd.R_slice HO351.out; subst eo84; have hnb85 := NB352_330.out; have hnc85 := NB330_352.out; have hnb86 := NB352_331.out; have hnc86 := NB331_352.out; have hnb87 := NB352_344.out; have hnc87 := NB344_352.out; have hnb88 := NB352_348.out; have hnc88 := NB348_352.out; have hcz89_0 := zc0 BK352 0 rfl; have hfz89_0 := blk_frozen BK352.out 0; have hcz90_0 := zc0 BK348 0 rfl; have hfz90_0 := blk_frozen BK348.out 0) | ((with_reducible refine gate_callee (f := 30) rfl ?_); refine goesL_ (some 50) rfl rfl Try.func30 (by kernel_rfl) rfl #[.agg #[.slice Ao75 t345.length co75], .agg #[.slice Ao84 t349.length co84], .int .i64 a2, .int .i64 a3] rfl (by (try simp only [zq1, zq2, zq3]); first | done | rfl | (simp only [List.length_drop, List.length_take]; rfl)) ?_; (with_reducible refine (impl_PartText.calls k _ _ t345 _ _ t349 a2 a3 t353 t356 _ ?side1 ?side2 ?side3 ?side4 A26.out).mono ?_); (case side1 => refine (Kd.S_reads' (e := 97) (base := w.heap.size) (ok := fun k_ => (True ∧ some k_ ≠ (v335 : Value).ownBlock)) (n := t345.length) (c := co75) ?_).2.2; exact (by (with_reducible repeat (first | apply Kd.S_alloc | apply Kd.S_drewN | apply Kd.S_drew)); exact (Kd.S_mono (Kd.S_far (p := ⟨gb352, 0, none⟩) (Kd.S_types HO347.out BK352.out (by decide)) (fun _ hk => hk.2) (.slice Ao84 t349.length co84)) (fun _ h_ => h_.1)))); (case side2 => exact (Kd.S_reads' HO347.out).2.1); (case side3 => refine (Kd.R_reads' (e := 60) (base := w.heap.size) (ok := fun k_ => ((True ∧ some k_ ≠ (v338 : Value).ownBlock) ∧ some k_ ≠ (.slice Ao69 t340.length co69 : Value).ownBlock)) (n := t349.length) (c := co84) ?_).2.2; exact (by (with_reducible repeat (first | apply Kd.R_alloc | apply Kd.R_drewN | apply Kd.R_drew)); exact (Kd.R_mono (Kd.R_far (p := ⟨gb352, 0, none⟩) (Kd.R_types HO351.out BK352.out (by decide)) (fun _ hk => hk.2) (.slice Ao84 t349.length co84)) (fun _ h_ => h_.1)))); (case side4 => exact (Kd.R_reads' HO351.out).2.1); rintro e w91 ⟨v354, rfl, ho0, hb⟩; refine ⟨_, rfl, ?_⟩; have HO355 := Aside0.mk (Kd.R_lower (Kd.R_new' (Kd.R_new' (Kd.R_new' ho0 (Kd.R_lt (by (with_reducible repeat (first | apply Kd.R_alloc | apply Kd.R_drewN | apply Kd.R_drew)); exact (Kd.R_mono (Kd.R_far (p := ⟨gb352, 0, none⟩) (Kd.R_types HO339.out BK352.out (by decide)) (fun _ hk => hk.2) (.slice Ao84 t349.length co84)) (fun _ h_ => h_.1))))) (Kd.R_lt (by (with_reducible repeat (first | apply Kd.R_alloc | apply Kd.R_drewN | apply Kd.R_drew)); exact (Kd.R_mono (Kd.R_far (p := ⟨gb352, 0, none⟩) (Kd.R_types HO342.out BK352.out (by decide)) (fun _ hk => hk.2) (.slice Ao84 t349.length co84)) (fun _ h_ => h_.1))))) (Kd.R_lt (by (with_reducible repeat (first | apply Kd.R_alloc | apply Kd.R_drewN | apply Kd.R_drew)); exact (Kd.R_mono (Kd.R_far (p := ⟨gb352, 0, none⟩) (Kd.R_types HO351.out BK352.out (by decide)) (fun _ hk => hk.2) (.slice Ao84 t349.length co84)) (fun _ h_ => h_.1))))) (below_size (by repeat (first | exact zh0 HB | refine below_set ?_ GE330.out | refine below_set ?_ GE331.out | refine below_set ?_ GE344.out | refine below_set ?_ GE348.out | refine below_set ?_ GE352.out)))); replace HO336 := Aside0.mk (Kd.S_below (by (with_reducible repeat (first | apply Kd.S_alloc | apply Kd.S_drewN | apply Kd.S_drew)); exact (Kd.S_mono (Kd.S_far (p := ⟨gb352, 0, none⟩) (Kd.S_types HO336.out BK352.out (by decide)) (fun _ hk => hk.2) (.slice Ao84 t349.length co84)) (fun _ h_ => h_.1))) hb); replace HO339 := Aside0.mk (Kd.R_elder' (by (with_reducible repeat (first | apply Kd.R_alloc | apply Kd.R_drewN | apply Kd.R_drew)); exact (Kd.R_mono (Kd.R_far (p := ⟨gb352, 0, none⟩) (Kd.R_types HO339.out BK352.out (by decide)) (fun _ hk => hk.2) (.slice Ao84 t349.length co84)) (fun _ h_ => h_.1))) (Kd.R_base ho0) hb); replace HO342 := Aside0.mk (Kd.R_elder' (by (with_reducible repeat (first | apply Kd.R_alloc | apply Kd.R_drewN | apply Kd.R_drew)); exact (Kd.R_mono (Kd.R_far (p := ⟨gb352, 0, none⟩) (Kd.R_types HO342.out BK352.out (by decide)) (fun _ hk => hk.2) (.slice Ao84 t349.length co84)) (fun _ h_ => h_.1))) (Kd.R_base ho0) hb); replace HO347 := Aside0.mk (Kd.S_below (by (with_reducible repeat (first | apply Kd.S_alloc | apply Kd.S_drewN | apply Kd.S_drew)); exact (Kd.S_mono (Kd.S_far (p := ⟨gb352, 0, none⟩) (Kd.S_types HO347.out BK352.out (by decide)) (fun _ hk => hk.2) (.slice Ao84 t349.length co84)) (fun _ h_ => h_.1))) hb); replace HO351 := Aside0.mk (Kd.R_elder' (by (with_reducible repeat (first | apply Kd.R_alloc | apply Kd.R_drewN | apply Kd.R_drew)); exact (Kd.R_mono (Kd.R_far (p := ⟨gb352, 0, none⟩) (Kd.R_types HO351.out BK352.out (by decide)) (fun _ hk => hk.2) (.slice Ao84 t349.length co84)) (fun _ h_ => h_.1))) (Kd.R_base ho0) hb); replace BK330 := Aside0.mk (blk_below (g := gb330) (o := .cells #[.slice A0_0 l0_0.length c0_0] 24 (0, 0)) (by (with_reducible repeat (first | refine blk_drewN ?_ _ | refine blk_drew ?_ | refine blk_alloc ?_ _)); refine blk_far ?_ NB330_352.out _; (with_reducible repeat (first | refine blk_drewN ?_ _ | refine blk_drew ?_ | refine blk_alloc ?_ _)); exact BK330.out) hb); replace BK331 := Aside0.mk (blk_below (g := gb331) (o := .cells #[.slice A1_0 l1_0.length c1_0] 27 (0, 0)) (by (with_reducible repeat (first | refine blk_drewN ?_ _ | refine blk_drew ?_ | refine blk_alloc ?_ _)); refine blk_far ?_ NB331_352.out _; (with_reducible repeat (first | refine blk_drewN ?_ _ | refine blk_drew ?_ | refine blk_alloc ?_ _)); exact BK331.out) hb); replace BK344 := Aside0.mk (blk_below (g := gb344) (o := .cells #[.slice Ao69 t340.length co69] 32 (0, 0)) (by (with_reducible repeat (first | refine blk_drewN ?_ _ | refine blk_drew ?_ | refine blk_alloc ?_ _)); refine blk_far ?_ NB344_352.out _; (with_reducible repeat (first | refine blk_drewN ?_ _ | refine blk_drew ?_ | refine blk_alloc ?_ _)); exact BK344.out) hb); replace BK348 := Aside0.mk (blk_below (g := gb348) (o := .cells #[.slice Ao75 t345.length co75] 35 (0, 0)) (by (with_reducible repeat (first | refine blk_drewN ?_ _ | refine blk_drew ?_ | refine blk_alloc ?_ _)); refine blk_far ?_ NB348_352.out _; (with_reducible repeat (first | refine blk_drewN ?_ _ | refine blk_drew ?_ | refine blk_alloc ?_ _)); exact BK348.out) hb); replace BK352 := Aside0.mk (blk_below (g := gb352) (o := .cells #[.slice Ao84 t349.length co84] 32 (0, 0)) (by (with_reducible repeat (first | refine blk_drewN ?_ _ | refine blk_drew ?_ | refine blk_alloc ?_ _)); refine blk_put (cs := #[.slice none 0 0]) ?_ 0 _ rfl; (with_reducible repeat (first | refine blk_drewN ?_ _ | refine blk_drew ?_ | refine blk_alloc ?_ _)); exact BK352.out) hb); replace HB := Aside0.mk (below_step (by repeat (first | exact zh0 HB | refine below_set ?_ GE330.out | refine below_set ?_ GE331.out | refine below_set ?_ GE344.out | refine below_set ?_ GE348.out | refine below_set ?_ GE352.out)) hb); (try clear hb); (try clear hb2); (try clear hk); (try clear hi); (try clear ho0)) | ((with_reducible refine gate_dst (N := 14) rfl ?_); refine box_event ?hg (N := 14) ?hd (cs := #[.slice none 0 0]) (t := 32) ?hr ?_; (case hd => rfl); (case hg => rfl); (case hr => first | (go_simp; done) | (go_simp; rfl)); intro gb357 hg w92 hbox hb; have BK357 := Aside0.mk (hbox); have GW357 := zge HB hg; have GE357 := zge HB hg; have NB330_357 := Aside0.mk ((by rw [hg]; exact Nat.ne_of_lt (blk_lt (g := gb330) (o := .cells #[.slice A0_0 l0_0.length c0_0] 24 (0, 0)) (by (with_reducible repeat (first | refine blk_drewN ?_ _ | refine blk_drew ?_ | refine blk_alloc ?_ _)); exact BK330.out)) : gb330 ≠ gb357)); have NB357_330 := Aside0.mk ((by rw [hg]; exact Nat.ne_of_gt (blk_lt (g := gb330) (o := .cells #[.slice A0_0 l0_0.length c0_0] 24 (0, 0)) (by (with_reducible repeat (first | refine blk_drewN ?_ _ | refine blk_drew ?_ | refine blk_alloc ?_ _)); exact BK330.out)) : gb357 ≠ gb330)); have NB331_357 := Aside0.mk ((by rw [hg]; exact Nat.ne_of_lt (blk_lt (g := gb331) (o := .cells #[.slice A1_0 l1_0.length c1_0] 27 (0, 0)) (by (with_reducible repeat (first | refine blk_drewN ?_ _ | refine blk_drew ?_ | refine blk_alloc ?_ _)); exact BK331.out)) : gb331 ≠ gb357)); have NB357_331 := Aside0.mk ((by rw [hg]; exact Nat.ne_of_gt (blk_lt (g := gb331) (o := .cells #[.slice A1_0 l1_0.length c1_0] 27 (0, 0)) (by (with_reducible repeat (first | refine blk_drewN ?_ _ | refine blk_drew ?_ | refine blk_alloc ?_ _)); exact BK331.out)) : gb357 ≠ gb331)); have NB344_357 := Aside0.mk ((by rw [hg]; exact Nat.ne_of_lt (blk_lt (g := gb344) (o := .cells #[.slice Ao69 t340.length co69] 32 (0, 0)) (by (with_reducible repeat (first | refine blk_drewN ?_ _ | refine blk_drew ?_ | refine blk_alloc ?_ _)); exact BK344.out)) : gb344 ≠ gb357)); have NB357_344 := Aside0.mk ((by rw [hg]; exact Nat.ne_of_gt (blk_lt (g := gb344) (o := .cells #[.slice Ao69 t340.length co69] 32 (0, 0)) (by (with_reducible repeat (first | refine blk_drewN ?_ _ | refine blk_drew ?_ | refine blk_alloc ?_ _)); exact BK344.out)) : gb357 ≠ gb344)); have NB348_357 := Aside0.mk ((by rw [hg]; exact Nat.ne_of_lt (blk_lt (g := gb348) (o := .cells #[.slice Ao75 t345.length co75] 35 (0, 0)) (by (with_reducible repeat (first | refine blk_drewN ?_ _ | refine blk_drew ?_ | refine blk_alloc ?_ _)); exact BK348.out)) : gb348 ≠ gb357)); have NB357_348 := Aside0.mk ((by rw [hg]; exact Nat.ne_of_gt (blk_lt (g := gb348) (o := .cells #[.slice Ao75 t345.length co75] 35 (0, 0)) (by (with_reducible repeat (first | refine blk_drewN ?_ _ | refine blk_drew ?_ | refine blk_alloc ?_ _)); exact BK348.out)) : gb357 ≠ gb348)); have NB352_357 := Aside0.mk ((by rw [hg]; exact Nat.ne_of_lt (blk_lt (g := gb352) (o := .cells #[.slice Ao84 t349.length co84] 32 (0, 0)) (by (with_reducible repeat (first | refine blk_drewN ?_ _ | refine blk_drew ?_ | refine blk_alloc ?_ _)); exact BK352.out)) : gb352 ≠ gb357)); have NB357_352 := Aside0.mk ((by rw [hg]; exact Nat.ne_of_gt (blk_lt (g := gb352) (o := .cells #[.slice Ao84 t349.length co84] 32 (0, 0)) (by (with_reducible repeat (first | refine blk_drewN ?_ _ | refine blk_drew ?_ | refine blk_alloc ?_ _)); exact BK352.out)) : gb357 ≠ gb352)); replace HO336 := zsb HO336 hb; replace HO339 := zrb HO339 hb; replace HO342 := zrb HO342 hb; replace HO347 := zsb HO347 hb; replace HO351 := zrb HO351 hb; replace HO355 := zrb HO355 hb; replace BK330 := Aside0.mk (blk_below (g := gb330) (o := .cells #[.slice A0_0 l0_0.length c0_0] 24 (0, 0)) (by (with_reducible repeat (first | refine blk_drewN ?_ _ | refine blk_drew ?_ | refine blk_alloc ?_ _)); exact BK330.out) hb); replace BK331 := Aside0.mk (blk_below (g := gb331) (o := .cells #[.slice A1_0 l1_0.length c1_0] 27 (0, 0)) (by (with_reducible repeat (first | refine blk_drewN ?_ _ | refine blk_drew ?_ | refine blk_alloc ?_ _)); exact BK331.out) hb); replace BK344 := Aside0.mk (blk_below (g := gb344) (o := .cells #[.slice Ao69 t340.length co69] 32 (0, 0)) (by (with_reducible repeat (first | refine blk_drewN ?_ _ | refine blk_drew ?_ | refine blk_alloc ?_ _)); exact BK344.out) hb); replace BK348 := Aside0.mk (blk_below (g := gb348) (o := .cells #[.slice Ao75 t345.length co75] 35 (0, 0)) (by (with_reducible repeat (first | refine blk_drewN ?_ _ | refine blk_drew ?_ | refine blk_alloc ?_ _)); exact BK348.out) hb); replace BK352 := Aside0.mk (blk_below (g := gb352) (o := .cells #[.slice Ao84 t349.length co84] 32 (0, 0)) (by (with_reducible repeat (first | refine blk_drewN ?_ _ | refine blk_drew ?_ | refine blk_alloc ?_ _)); exact BK352.out) hb); replace HB := zhs HB hb; clear hb hbox hg; obtain ⟨Ao93, co93, eo93⟩ := Kd.R_slice HO355.out; subst eo93; have hnb94 := NB357_330.out; have hnc94 := NB330_357.out; have hnb95 := NB357_331.out; have hnc95 := NB331_357.out; have hnb96 := NB357_344.out; have hnc96 := NB344_357.out; have hnb97 := NB357_348.out; have hnc97 := NB348_357.out; have hnb98 := NB357_352.out; have hnc98 := NB352_357.out; have hcz99_0 := zc0 BK357 0 rfl; have hfz99_0 := blk_frozen BK357.out 0; have hcz100_0 := zc0 BK344 0 rfl; have hfz100_0 := blk_frozen BK344.out 0) | ((with_reducible refine gate_callee (f := 20) rfl ?_); refine goesL_ (some 55) rfl rfl Try.func20 (by kernel_rfl) rfl #[.agg #[.slice Ao93 t353.length co93], .agg #[.slice Ao69 t340.length co69]] rfl (by (try simp only [zq1, zq2, zq3]); first | done | rfl | (simp only [List.length_drop, List.length_take]; rfl)) ?_; (with_reducible refine (laws_eqRope.calls k _ _ t353 _ _ t340 true _ ?side1 ?side2 ?side3 ?side4 A27.out).mono ?_); (case side1 => refine (Kd.R_reads' (e := 60) (base := w.heap.size) (ok := fun k_ => (((True ∧ some k_ ≠ (v338 : Value).ownBlock) ∧ some k_ ≠ (.slice Ao69 t340.length co69 : Value).ownBlock) ∧ some k_ ≠ (.slice Ao84 t349.length co84 : Value).ownBlock)) (n := t353.length) (c := co93) ?_).2.2; exact (by (with_reducible repeat (first | apply Kd.R_alloc | apply Kd.R_drewN | apply Kd.R_drew)); exact (Kd.R_mono (Kd.R_far (p := ⟨gb357, 0, none⟩) (Kd.R_types HO355.out BK357.out (by decide)) (fun _ hk => hk.2) (.slice Ao93 t353.length co93)) (fun _ h_ => h_.1)))); (case side2 => exact (Kd.R_reads' HO355.out).2.1); (case side3 => refine (Kd.R_reads' (e := 60) (base := w.heap.size) (ok := fun k_ => ((some k_ ≠ (v338 : Value).ownBlock ∧ some k_ ≠ (.slice Ao84 t349.length co84 : Value).ownBlock) ∧ some k_ ≠ (.slice Ao93 t353.length co93 : Value).ownBlock)) (n := t340.length) (c := co69) ?_).2.2; exact (by (with_reducible repeat (first | apply Kd.R_alloc | apply Kd.R_drewN | apply Kd.R_drew)); exact (Kd.R_mono (Kd.R_far (p := ⟨gb357, 0, none⟩) (Kd.R_types HO342.out BK357.out (by decide)) (fun _ hk => hk.2) (.slice Ao93 t353.length co93)) (fun _ h_ => h_.1)))); (case side4 => exact (Kd.R_reads' HO342.out).2.1); rintro e w101 ⟨rfl, hb⟩; refine ⟨_, rfl, ?_⟩; replace HO336 := Aside0.mk (Kd.S_below (by (with_reducible repeat (first | apply Kd.S_alloc | apply Kd.S_drewN | apply Kd.S_drew)); exact (Kd.S_mono (Kd.S_far (p := ⟨gb357, 0, none⟩) (Kd.S_types HO336.out BK357.out (by decide)) (fun _ hk => hk.2) (.slice Ao93 t353.length co93)) (fun _ h_ => h_.1))) hb); replace HO339 := Aside0.mk (Kd.R_below (by (with_reducible repeat (first | apply Kd.R_alloc | apply Kd.R_drewN | apply Kd.R_drew)); exact (Kd.R_mono (Kd.R_far (p := ⟨gb357, 0, none⟩) (Kd.R_types HO339.out BK357.out (by decide)) (fun _ hk => hk.2) (.slice Ao93 t353.length co93)) (fun _ h_ => h_.1))) hb); replace HO342 := Aside0.mk (Kd.R_below (by (with_reducible repeat (first | apply Kd.R_alloc | apply Kd.R_drewN | apply Kd.R_drew)); exact (Kd.R_mono (Kd.R_far (p := ⟨gb357, 0, none⟩) (Kd.R_types HO342.out BK357.out (by decide)) (fun _ hk => hk.2) (.slice Ao93 t353.length co93)) (fun _ h_ => h_.1))) hb); replace HO347 := Aside0.mk (Kd.S_below (by (with_reducible repeat (first | apply Kd.S_alloc | apply Kd.S_drewN | apply Kd.S_drew)); exact (Kd.S_mono (Kd.S_far (p := ⟨gb357, 0, none⟩) (Kd.S_types HO347.out BK357.out (by decide)) (fun _ hk => hk.2) (.slice Ao93 t353.length co93)) (fun _ h_ => h_.1))) hb); replace HO351 := Aside0.mk (Kd.R_below (by (with_reducible repeat (first | apply Kd.R_alloc | apply Kd.R_drewN | apply Kd.R_drew)); exact (Kd.R_mono (Kd.R_far (p := ⟨gb357, 0, none⟩) (Kd.R_types HO351.out BK357.out (by decide)) (fun _ hk => hk.2) (.slice Ao93 t353.length co93)) (fun _ h_ => h_.1))) hb); replace HO355 := Aside0.mk (Kd.R_below (by (with_reducible repeat (first | apply Kd.R_alloc | apply Kd.R_drewN | apply Kd.R_drew)); exact (Kd.R_mono (Kd.R_far (p := ⟨gb357, 0, none⟩) (Kd.R_types HO355.out BK357.out (by decide)) (fun _ hk => hk.2) (.slice Ao93 t353.length co93)) (fun _ h_ => h_.1))) hb); replace BK330 := Aside0.mk (blk_below (g := gb330) (o := .cells #[.slice A0_0 l0_0.length c0_0] 24 (0, 0)) (by (with_reducible repeat (first | refine blk_drewN ?_ _ | refine blk_drew ?_ | refine blk_alloc ?_ _)); refine blk_far ?_ NB330_357.out _; (with_reducible repeat (first | refine blk_drewN ?_ _ | refine blk_drew ?_ | refine blk_alloc ?_ _)); exact BK330.out) hb); replace BK331 := Aside0.mk (blk_below (g := gb331) (o := .cells #[.slice A1_0 l1_0.length c1_0] 27 (0, 0)) (by (with_reducible repeat (first | refine blk_drewN ?_ _ | refine blk_drew ?_ | refine blk_alloc ?_ _)); refine blk_far ?_ NB331_357.out _; (with_reducible repeat (first | refine blk_drewN ?_ _ | refine blk_drew ?_ | refine blk_alloc ?_ _)); exact BK331.out) hb); replace BK344 := Aside0.mk (blk_below (g := gb344) (o := .cells #[.slice Ao69 t340.length co69] 32 (0, 0)) (by (with_reducible repeat (first | refine blk_drewN ?_ _ | refine blk_drew ?_ | refine blk_alloc ?_ _)); refine blk_far ?_ NB344_357.out _; (with_reducible repeat (first | refine blk_drewN ?_ _ | refine blk_drew ?_ | refine blk_alloc ?_ _)); exact BK344.out) hb); replace BK348 := Aside0.mk (blk_below (g := gb348) (o := .cells #[.slice Ao75 t345.length co75] 35 (0, 0)) (by (with_reducible repeat (first | refine blk_drewN ?_ _ | refine blk_drew ?_ | refine blk_alloc ?_ _)); refine blk_far ?_ NB348_357.out _; (with_reducible repeat (first | refine blk_drewN ?_ _ | refine blk_drew ?_ | refine blk_alloc ?_ _)); exact BK348.out) hb); replace BK352 := Aside0.mk (blk_below (g := gb352) (o := .cells #[.slice Ao84 t349.length co84] 32 (0, 0)) (by (with_reducible repeat (first | refine blk_drewN ?_ _ | refine blk_drew ?_ | refine blk_alloc ?_ _)); refine blk_far ?_ NB352_357.out _; (with_reducible repeat (first | refine blk_drewN ?_ _ | refine blk_drew ?_ | refine blk_alloc ?_ _)); exact BK352.out) hb); replace BK357 := Aside0.mk (blk_below (g := gb357) (o := .cells #[.slice Ao93 t353.length co93] 32 (0, 0)) (by (with_reducible repeat (first | refine blk_drewN ?_ _ | refine blk_drew ?_ | refine blk_alloc ?_ _)); refine blk_put (cs := #[.slice none 0 0]) ?_ 0 _ rfl; (with_reducible repeat (first | refine blk_drewN ?_ _ | refine blk_drew ?_ | refine blk_alloc ?_ _)); exact BK357.out) hb); replace HB := Aside0.mk (below_step (by repeat (first | exact zh0 HB | refine below_set ?_ GE330.out | refine below_set ?_ GE331.out | refine below_set ?_ GE344.out | refine below_set ?_ GE348.out | refine below_set ?_ GE352.out | refine below_set ?_ GE357.out)) hb); (try clear hb); (try clear hb2); (try clear hk); (try clear hi)))
               replace HO336 := Aside0.mk (Kd.S_drew HO336.out)
               replace HO339 := Aside0.mk (Kd.R_drew HO339.out)
               replace HO342 := Aside0.mk (Kd.R_drew HO342.out)
               replace HO347 := Aside0.mk (Kd.S_drew HO347.out)
               replace HO351 := Aside0.mk (Kd.R_drew HO351.out)
               replace HO355 := Aside0.mk (Kd.R_drew HO355.out)
               replace BK330 := Aside0.mk (blk_drew BK330.out)
               replace BK331 := Aside0.mk (blk_drew BK331.out)
               replace BK344 := Aside0.mk (blk_drew BK344.out)
               replace BK348 := Aside0.mk (blk_drew BK348.out)
               replace BK352 := Aside0.mk (blk_drew BK352.out)
               replace BK357 := Aside0.mk (blk_drew BK357.out)
               replace HB := Aside0.mk (below_drew1 HB.out)
               refine start_ (n := 5) (S := fun w' => w'.cell? ⟨gb348, 0, none⟩ = some (.slice Ao75 t345.length co75) ∧ w'.cell? ⟨gb330, 0, none⟩ = some (.slice A0_0 l0_0.length c0_0)) (ds := []) #[zF, zF, zF, zF, zF] (by kernel_rfl) rfl rfl ⟨zc0 BK348 0 rfl, zc0 BK330 0 rfl⟩ (fun hHeld => ?_)
               generalize w101.drew = w102 at HO336 HO339 HO342 HO347 HO351 HO355 BK330 BK331 BK344 BK348 BK352 BK357 HB hHeld ⊢
               refine take_ (i := 0) (N := some 62) (v := ?_) (a' := ?_) #[zT, zF, zF, zF, zF] rfl rfl (by kernel_rfl) (fun _ _ _ h => h) (Or.inl ⟨by rfl, ?_⟩) hHeld ?_ ?_
               rotate_left
               ·rintro w' ⟨s0, s1⟩
                go_simp
                with_reducible rfl
               rotate_left
               ·simp only [Act.put, zp1, zp2, zp3, i64_w, i32_w]
                rfl
               refine take_ (i := 1) (N := some 63) (v := ?_) (a' := ?_) #[zT, zT, zF, zF, zF] rfl rfl (by kernel_rfl) (fun _ _ _ h => h) (Or.inl ⟨by rfl, ?_⟩) hHeld ?_ ?_
               rotate_left
               ·rintro w' ⟨s0, s1⟩
                go_simp
                with_reducible rfl
               rotate_left
               ·simp only [Act.put, zp1, zp2, zp3, i64_w, i32_w]
                rfl
               refine one_ (i := 2) (N := some 64) #[zT, zT, zT, zF, zF] rfl rfl (by kernel_rfl) (by decide) (fun K hK => ?_)
               refine goes_ Try.func17 (by kernel_rfl) rfl #[.agg #[.slice A0_0 l0_0.length c0_0]] (by rfl) rfl rfl (by (try simp only [zq1, zq2, zq3]); first | done | rfl | (simp only [List.length_drop, List.length_take]; rfl)) ?_
               with_reducible refine (laws_toMemory.calls k _ _ l0_0 t359 _ ?side1 ?side2 A30.out).mono ?_
               (case side1 => exact Kd.C_below HR0_0.out (zh0 HB))
               (case side2 => exact HC0_0.out)
               rintro e w103 ⟨v360, rfl, ho0, hb⟩
               refine ⟨_, rfl, ?_⟩
               have HO361 := Aside0.mk (Kd.S_lower (Kd.S_new' (Kd.S_new' ho0 (Kd.S_lt (zs0 HO336))) (Kd.S_lt (zs0 HO347))) (below_size (zh0 HB)))
               replace HO336 := Aside0.mk (Kd.S_elder' (zs0 HO336) (Kd.S_base ho0) hb)
               replace HO339 := zrb HO339 hb
               replace HO342 := zrb HO342 hb
               replace HO347 := Aside0.mk (Kd.S_elder' (zs0 HO347) (Kd.S_base ho0) hb)
               replace HO351 := zrb HO351 hb
               replace HO355 := zrb HO355 hb
               replace BK330 := zb0 BK330 hb
               replace BK331 := zb0 BK331 hb
               replace BK344 := zb0 BK344 hb
               replace BK348 := zb0 BK348 hb
               replace BK352 := zb0 BK352 hb
               replace BK357 := zb0 BK357 hb
               replace HB := zhs HB hb
               (try clear hb)
               (try clear hb2)
               (try clear hk)
               (try clear hi)
               (try clear ho0)
               obtain ⟨Ao104, co104, eo104⟩ := Kd.S_slice HO361.out
               (first | subst eo104 | (injection eo104 with f1_ f2_ f3_; have f4_ := f1_.symm; have f5_ := f3_.symm; clear f1_ f2_ f3_; subst f4_; subst f5_))
               refine hK.out _ _ ⟨zc0 BK348 0 rfl, zc0 BK330 0 rfl⟩ (fun hHeld => ?_)
               clear hK K
               refine norm_ (a' := ?_) ?_ ?_
               rotate_left
               ·show Act.put _ (some 64) _ = _
                simp only [Act.put, zp1, zp2, zp3, i64_w, i32_w]
                rfl
               refine one_ (i := 3) (N := some 65) #[zT, zT, zT, zT, zF] rfl rfl (by kernel_rfl) (by decide) (fun K hK => ?_)
               refine goes_ Try.func21 (by kernel_rfl) rfl #[.agg #[.slice Ao75 t345.length co75], .agg #[.slice Ao104 t359.length co104]] (by rfl) rfl rfl (by (try simp only [zq1, zq2, zq3]); first | done | rfl | (simp only [List.length_drop, List.length_take]; rfl)) ?_
               with_reducible refine (laws_eqMemory.calls k _ _ t345 _ _ t359 true _ ?side1 ?side2 ?side3 ?side4 A31.out).mono ?_
               (case side1 => repeat (first | exact (Kd.S_reads' HO347.out).2.2 | (with_reducible refine Kd.C_alloc ?_ _) | (with_reducible refine Kd.C_drewN ?_ _) | (with_reducible refine Kd.C_drew ?_)))
               (case side2 => exact (Kd.S_reads' HO347.out).2.1)
               (case side3 => repeat (first | exact (Kd.S_reads' HO361.out).2.2 | (with_reducible refine Kd.C_alloc ?_ _) | (with_reducible refine Kd.C_drewN ?_ _) | (with_reducible refine Kd.C_drew ?_)))
               (case side4 => exact (Kd.S_reads' HO361.out).2.1)
               rintro e w105 ⟨rfl, hb⟩
               refine ⟨_, rfl, ?_⟩
               replace HO336 := zsb HO336 hb
               replace HO339 := zrb HO339 hb
               replace HO342 := zrb HO342 hb
               replace HO347 := zsb HO347 hb
               replace HO351 := zrb HO351 hb
               replace HO355 := zrb HO355 hb
               replace HO361 := zsb HO361 hb
               replace BK330 := zb0 BK330 hb
               replace BK331 := zb0 BK331 hb
               replace BK344 := zb0 BK344 hb
               replace BK348 := zb0 BK348 hb
               replace BK352 := zb0 BK352 hb
               replace BK357 := zb0 BK357 hb
               replace HB := zhs HB hb
               (try clear hb)
               (try clear hb2)
               (try clear hk)
               (try clear hi)
               refine hK.out _ _ ⟨zc0 BK348 0 rfl, zc0 BK330 0 rfl⟩ (fun hHeld => ?_)
               clear hK K
               refine norm_ (a' := ?_) ?_ ?_
               rotate_left
               ·show Act.put _ (some 65) _ = _
                simp only [Act.put, zp1, zp2, zp3, i64_w, i32_w]
                rfl
               refine pure_ (i := 4) (N := some 66) (v := ?_) (a' := ?_) #[zT, zT, zT, zT, zT] rfl rfl (by kernel_rfl) (fun _ _ _ h => h) (Or.inl ⟨by rfl, ?_⟩) ?_ ?_
               rotate_left
               ·intro w'
                go_simp
                with_reducible rfl
               rotate_left
               ·simp only [Act.put, zp1, zp2, zp3, i64_w, i32_w]
                rfl
               refine done_ (by kernel_rfl) ?_
               try go_wp2
               replace HO336 := Aside0.mk (Kd.S_drew HO336.out)
               replace HO339 := Aside0.mk (Kd.R_drew HO339.out)
               replace HO342 := Aside0.mk (Kd.R_drew HO342.out)
               replace HO347 := Aside0.mk (Kd.S_drew HO347.out)
               replace HO351 := Aside0.mk (Kd.R_drew HO351.out)
               replace HO355 := Aside0.mk (Kd.R_drew HO355.out)
               replace HO361 := Aside0.mk (Kd.S_drew HO361.out)
               replace BK330 := Aside0.mk (blk_drew BK330.out)
               replace BK331 := Aside0.mk (blk_drew BK331.out)
               replace BK344 := Aside0.mk (blk_drew BK344.out)
               replace BK348 := Aside0.mk (blk_drew BK348.out)
               replace BK352 := Aside0.mk (blk_drew BK352.out)
               replace BK357 := Aside0.mk (blk_drew BK357.out)
               replace HB := Aside0.mk (below_drew1 HB.out)
               refine start_ (n := 5) (S := fun w' => w'.cell? ⟨gb352, 0, none⟩ = some (.slice Ao84 t349.length co84) ∧ w'.cell? ⟨gb331, 0, none⟩ = some (.slice A1_0 l1_0.length c1_0)) (ds := []) #[zF, zF, zF, zF, zF] (by kernel_rfl) rfl rfl ⟨zc0 BK352 0 rfl, zc0 BK331 0 rfl⟩ (fun hHeld => ?_)
               generalize w105.drew = w106 at HO336 HO339 HO342 HO347 HO351 HO355 HO361 BK330 BK331 BK344 BK348 BK352 BK357 HB hHeld ⊢
               refine take_ (i := 0) (N := some 67) (v := ?_) (a' := ?_) #[zT, zF, zF, zF, zF] rfl rfl (by kernel_rfl) (fun _ _ _ h => h) (Or.inl ⟨by rfl, ?_⟩) hHeld ?_ ?_
               rotate_left
               ·rintro w' ⟨s0, s1⟩
                go_simp
                with_reducible rfl
               rotate_left
               ·simp only [Act.put, zp1, zp2, zp3, i64_w, i32_w]
                rfl
               refine take_ (i := 1) (N := some 68) (v := ?_) (a' := ?_) #[zT, zT, zF, zF, zF] rfl rfl (by kernel_rfl) (fun _ _ _ h => h) (Or.inl ⟨by rfl, ?_⟩) hHeld ?_ ?_
               rotate_left
               ·rintro w' ⟨s0, s1⟩
                go_simp
                with_reducible rfl
               rotate_left
               ·simp only [Act.put, zp1, zp2, zp3, i64_w, i32_w]
                rfl
               refine one_ (i := 2) (N := some 69) #[zT, zT, zT, zF, zF] rfl rfl (by kernel_rfl) (by decide) (fun K hK => ?_)
               refine goes_ Try.func18 (by kernel_rfl) rfl #[.agg #[.slice A1_0 l1_0.length c1_0]] (by rfl) rfl rfl (by (try simp only [zq1, zq2, zq3]); first | done | rfl | (simp only [List.length_drop, List.length_take]; rfl)) ?_
               with_reducible refine (laws_toRope.calls k _ _ l1_0 t363 _ ?side1 ?side2 A33.out).mono ?_
               (case side1 => exact Kd.C_below HR1_0.out (zh0 HB))
               (case side2 => exact HC1_0.out)
               rintro e w107 ⟨v364, rfl, ho0, hb⟩
               refine ⟨_, rfl, ?_⟩
               have HO365 := Aside0.mk (Kd.R_lower (Kd.R_new' (Kd.R_new' (Kd.R_new' (Kd.R_new' ho0 (Kd.R_lt (zr0 HO339))) (Kd.R_lt (zr0 HO342))) (Kd.R_lt (zr0 HO351))) (Kd.R_lt (zr0 HO355))) (below_size (zh0 HB)))
               replace HO336 := zsb HO336 hb
               replace HO339 := Aside0.mk (Kd.R_elder' (zr0 HO339) (Kd.R_base ho0) hb)
               replace HO342 := Aside0.mk (Kd.R_elder' (zr0 HO342) (Kd.R_base ho0) hb)
               replace HO347 := zsb HO347 hb
               replace HO351 := Aside0.mk (Kd.R_elder' (zr0 HO351) (Kd.R_base ho0) hb)
               replace HO355 := Aside0.mk (Kd.R_elder' (zr0 HO355) (Kd.R_base ho0) hb)
               replace HO361 := zsb HO361 hb
               replace BK330 := zb0 BK330 hb
               replace BK331 := zb0 BK331 hb
               replace BK344 := zb0 BK344 hb
               replace BK348 := zb0 BK348 hb
               replace BK352 := zb0 BK352 hb
               replace BK357 := zb0 BK357 hb
               replace HB := zhs HB hb
               (try clear hb)
               (try clear hb2)
               (try clear hk)
               (try clear hi)
               (try clear ho0)
               obtain ⟨Ao108, co108, eo108⟩ := Kd.R_slice HO365.out
               (first | subst eo108 | (injection eo108 with f1_ f2_ f3_; have f4_ := f1_.symm; have f5_ := f3_.symm; clear f1_ f2_ f3_; subst f4_; subst f5_))
               refine hK.out _ _ ⟨zc0 BK352 0 rfl, zc0 BK331 0 rfl⟩ (fun hHeld => ?_)
               clear hK K
               refine norm_ (a' := ?_) ?_ ?_
               rotate_left
               ·show Act.put _ (some 69) _ = _
                simp only [Act.put, zp1, zp2, zp3, i64_w, i32_w]
                rfl
               refine one_ (i := 3) (N := some 70) #[zT, zT, zT, zT, zF] rfl rfl (by kernel_rfl) (by decide) (fun K hK => ?_)
               refine goes_ Try.func20 (by kernel_rfl) rfl #[.agg #[.slice Ao84 t349.length co84], .agg #[.slice Ao108 t363.length co108]] (by rfl) rfl rfl (by (try simp only [zq1, zq2, zq3]); first | done | rfl | (simp only [List.length_drop, List.length_take]; rfl)) ?_
               with_reducible refine (laws_eqRope.calls k _ _ t349 _ _ t363 true _ ?side1 ?side2 ?side3 ?side4 A34.out).mono ?_
               (case side1 => repeat (first | exact (Kd.R_reads' HO351.out).2.2 | (with_reducible refine Kd.C_alloc ?_ _) | (with_reducible refine Kd.C_drewN ?_ _) | (with_reducible refine Kd.C_drew ?_)))
               (case side2 => exact (Kd.R_reads' HO351.out).2.1)
               (case side3 => repeat (first | exact (Kd.R_reads' HO365.out).2.2 | (with_reducible refine Kd.C_alloc ?_ _) | (with_reducible refine Kd.C_drewN ?_ _) | (with_reducible refine Kd.C_drew ?_)))
               (case side4 => exact (Kd.R_reads' HO365.out).2.1)
               rintro e w109 ⟨rfl, hb⟩
               refine ⟨_, rfl, ?_⟩
               replace HO336 := zsb HO336 hb
               replace HO339 := zrb HO339 hb
               replace HO342 := zrb HO342 hb
               replace HO347 := zsb HO347 hb
               replace HO351 := zrb HO351 hb
               replace HO355 := zrb HO355 hb
               replace HO361 := zsb HO361 hb
               replace HO365 := zrb HO365 hb
               replace BK330 := zb0 BK330 hb
               replace BK331 := zb0 BK331 hb
               replace BK344 := zb0 BK344 hb
               replace BK348 := zb0 BK348 hb
               replace BK352 := zb0 BK352 hb
               replace BK357 := zb0 BK357 hb
               replace HB := zhs HB hb
               (try clear hb)
               (try clear hb2)
               (try clear hk)
               (try clear hi)
               refine hK.out _ _ ⟨zc0 BK352 0 rfl, zc0 BK331 0 rfl⟩ (fun hHeld => ?_)
               clear hK K
               refine norm_ (a' := ?_) ?_ ?_
               rotate_left
               ·show Act.put _ (some 70) _ = _
                simp only [Act.put, zp1, zp2, zp3, i64_w, i32_w]
                rfl
               refine pure_ (i := 4) (N := some 71) (v := ?_) (a' := ?_) #[zT, zT, zT, zT, zT] rfl rfl (by kernel_rfl) (fun _ _ _ h => h) (Or.inl ⟨by rfl, ?_⟩) ?_ ?_
               rotate_left
               ·intro w'
                go_simp
                with_reducible rfl
               rotate_left
               ·simp only [Act.put, zp1, zp2, zp3, i64_w, i32_w]
                rfl
               refine done_ (by kernel_rfl) ?_
               have hcz110_0 := zc0 BK348 0 rfl
               have hfz110_0 := blk_frozen BK348.out 0
               try go_wp2_with (first | ((with_reducible refine gate_callee (f := 22) rfl ?_); refine goesL_ (some 74) rfl rfl Try.func22 (by kernel_rfl) rfl #[.agg #[.slice Ao75 t345.length co75], .int .i64 1] rfl (by (try simp only [zq1, zq2, zq3]); first | done | rfl | (simp only [List.length_drop, List.length_take]; rfl)) ?_; (with_reducible refine (laws_markMemory.calls k (fun k_ => some k_ ≠ (v335 : Value).ownBlock ∧ some k_ ≠ (.slice Ao104 t359.length co104 : Value).ownBlock ∧ some k_ ≠ (v338 : Value).ownBlock ∧ some k_ ≠ (.slice Ao69 t340.length co69 : Value).ownBlock ∧ some k_ ≠ (.slice Ao84 t349.length co84 : Value).ownBlock ∧ some k_ ≠ (.slice Ao93 t353.length co93 : Value).ownBlock ∧ some k_ ≠ (.slice Ao108 t363.length co108 : Value).ownBlock ∧ k_ ≠ gb330 ∧ k_ ≠ gb331 ∧ k_ ≠ gb344 ∧ k_ ≠ gb348 ∧ k_ ≠ gb352 ∧ k_ ≠ gb357) (.slice Ao75 t345.length co75) t345 1 t367 w _ ?side1 ?side2 A36.out).mono ?_); (case side1 => repeat (first | (with_reducible first | exact HB.out | apply below_alloc | apply pw_below_drewN | apply below_drew1 | refine below_set ?_ GE330.out | refine below_set ?_ GE331.out | refine below_set ?_ GE344.out | refine below_set ?_ GE348.out | refine below_set ?_ GE352.out | refine below_set ?_ GE357.out) | exact HB.out)); (case side2 => exact (Kd.S_mono (ok' := fun k_ => some k_ ≠ (v335 : Value).ownBlock ∧ some k_ ≠ (.slice Ao104 t359.length co104 : Value).ownBlock ∧ some k_ ≠ (v338 : Value).ownBlock ∧ some k_ ≠ (.slice Ao69 t340.length co69 : Value).ownBlock ∧ some k_ ≠ (.slice Ao84 t349.length co84 : Value).ownBlock ∧ some k_ ≠ (.slice Ao93 t353.length co93 : Value).ownBlock ∧ some k_ ≠ (.slice Ao108 t363.length co108 : Value).ownBlock ∧ k_ ≠ gb330 ∧ k_ ≠ gb331 ∧ k_ ≠ gb344 ∧ k_ ≠ gb348 ∧ k_ ≠ gb352 ∧ k_ ≠ gb357) (Kd.S_types (Kd.S_types (Kd.S_types (Kd.S_types (Kd.S_types (Kd.S_types (Kd.S_apart' (Kd.S_apart' (Kd.S_apart' (Kd.S_apart' (Kd.S_apart' (HO347.out) (Kd.R_typed HO339.out) (by decide)) (Kd.R_typed HO342.out) (by decide)) (Kd.R_typed HO351.out) (by decide)) (Kd.R_typed HO355.out) (by decide)) (Kd.R_typed HO365.out) (by decide)) BK330.out (by decide)) BK331.out (by decide)) BK344.out (by decide)) BK348.out (by decide)) BK352.out (by decide)) BK357.out (by decide)) (fun k_ hk_ => by first | exact ⟨hk_.1.1.1.1.1.1.1.1.1.1.1.1.2, ⟨hk_.1.1.1.1.1.1.1.1.1.1.1.2, ⟨hk_.1.1.1.1.1.1.1.1.1.1.2, ⟨hk_.1.1.1.1.1.1.1.1.1.2, ⟨hk_.1.1.1.1.1.1.1.1.2, ⟨hk_.1.1.1.1.1.1.1.2, ⟨hk_.1.1.1.1.1.1.2, ⟨hk_.1.1.1.1.1.2, ⟨hk_.1.1.1.1.2, ⟨hk_.1.1.1.2, ⟨hk_.1.1.2, ⟨hk_.1.2, hk_.2⟩⟩⟩⟩⟩⟩⟩⟩⟩⟩⟩⟩ | exact ⟨hk_.1.1.1.1.1.1.1.1.1.1.1.1, ⟨hk_.1.1.1.1.1.1.1.1.1.1.1.2, ⟨hk_.1.1.1.1.1.1.1.1.1.1.2, ⟨hk_.1.1.1.1.1.1.1.1.1.2, ⟨hk_.1.1.1.1.1.1.1.1.2, ⟨hk_.1.1.1.1.1.1.1.2, ⟨hk_.1.1.1.1.1.1.2, ⟨hk_.1.1.1.1.1.2, ⟨hk_.1.1.1.1.2, ⟨hk_.1.1.1.2, ⟨hk_.1.1.2, ⟨hk_.1.2, hk_.2⟩⟩⟩⟩⟩⟩⟩⟩⟩⟩⟩⟩ | (simp only [and_assoc, true_and] at hk_ ⊢; exact hk_) | simp_all))); rintro e w111 ⟨rfl, hb, hkp⟩; refine ⟨_, rfl, ?_⟩; have n0_ := Aside0.mk (blk_kept (zk0 BK330) hkp (fun hs_ => (fun e_ => (e_.2.2.2.2.2.2.2.1) rfl) hs_)); have n1_ := Aside0.mk (blk_kept (zk0 BK331) hkp (fun hs_ => (fun e_ => (e_.2.2.2.2.2.2.2.2.1) rfl) hs_)); have n2_ := Aside0.mk (Kd.R_mono (ok' := fun k_ => some k_ ≠ (.slice Ao69 t340.length co69 : Value).ownBlock ∧ some k_ ≠ (.slice Ao84 t349.length co84 : Value).ownBlock ∧ some k_ ≠ (.slice Ao93 t353.length co93 : Value).ownBlock ∧ some k_ ≠ (.slice Ao108 t363.length co108 : Value).ownBlock) (Kd.R_keptB ((znest (P := fun k_ => some k_ ≠ (v335 : Value).ownBlock ∧ some k_ ≠ (.slice Ao104 t359.length co104 : Value).ownBlock ∧ some k_ ≠ (v338 : Value).ownBlock ∧ some k_ ≠ (.slice Ao69 t340.length co69 : Value).ownBlock ∧ some k_ ≠ (.slice Ao84 t349.length co84 : Value).ownBlock ∧ some k_ ≠ (.slice Ao93 t353.length co93 : Value).ownBlock ∧ some k_ ≠ (.slice Ao108 t363.length co108 : Value).ownBlock ∧ k_ ≠ gb330 ∧ k_ ≠ gb331 ∧ k_ ≠ gb344 ∧ k_ ≠ gb348 ∧ k_ ≠ gb352 ∧ k_ ≠ gb357) rfl HO339.out (fun k_ hs2_ => hs2_.2.2.1))) hkp (fun k_ hk_ hs_ => (hk_.2) hs_)) (fun k_ hk_ => ⟨(by first | exact hk_.1.1.1.1.1 | exact hk_.1.1.1 | simp_all), (by first | exact hk_.1.1.1.1.2 | exact hk_.1.1.2.1 | simp_all), (by first | exact hk_.1.1.1.2 | exact hk_.1.1.2.2.1 | simp_all), (by first | exact hk_.1.1.2 | exact hk_.1.1.2.2.2 | simp_all)⟩)); have n3_ := Aside0.mk (Kd.R_mono (ok' := fun k_ => some k_ ≠ (v338 : Value).ownBlock ∧ some k_ ≠ (.slice Ao84 t349.length co84 : Value).ownBlock ∧ some k_ ≠ (.slice Ao93 t353.length co93 : Value).ownBlock ∧ some k_ ≠ (.slice Ao108 t363.length co108 : Value).ownBlock) (Kd.R_keptB ((znest (P := fun k_ => some k_ ≠ (v335 : Value).ownBlock ∧ some k_ ≠ (.slice Ao104 t359.length co104 : Value).ownBlock ∧ some k_ ≠ (v338 : Value).ownBlock ∧ some k_ ≠ (.slice Ao69 t340.length co69 : Value).ownBlock ∧ some k_ ≠ (.slice Ao84 t349.length co84 : Value).ownBlock ∧ some k_ ≠ (.slice Ao93 t353.length co93 : Value).ownBlock ∧ some k_ ≠ (.slice Ao108 t363.length co108 : Value).ownBlock ∧ k_ ≠ gb330 ∧ k_ ≠ gb331 ∧ k_ ≠ gb344 ∧ k_ ≠ gb348 ∧ k_ ≠ gb352 ∧ k_ ≠ gb357) rfl HO342.out (fun k_ hs2_ => hs2_.2.2.2.1))) hkp (fun k_ hk_ hs_ => (hk_.2) hs_)) (fun k_ hk_ => ⟨(by first | exact hk_.1.1.1.1.1 | exact hk_.1.1.1 | simp_all), (by first | exact hk_.1.1.1.1.2 | exact hk_.1.1.2.1 | simp_all), (by first | exact hk_.1.1.1.2 | exact hk_.1.1.2.2.1 | simp_all), (by first | exact hk_.1.1.2 | exact hk_.1.1.2.2.2 | simp_all)⟩)); have n4_ := Aside0.mk (blk_kept (zk0 BK344) hkp (fun hs_ => (fun e_ => (e_.2.2.2.2.2.2.2.2.2.1) rfl) hs_)); have n5_ := Aside0.mk (blk_kept (zk0 BK348) hkp (fun hs_ => (fun e_ => (e_.2.2.2.2.2.2.2.2.2.2.1) rfl) hs_)); have n6_ := Aside0.mk (Kd.R_mono (ok' := fun k_ => some k_ ≠ (v338 : Value).ownBlock ∧ some k_ ≠ (.slice Ao69 t340.length co69 : Value).ownBlock ∧ some k_ ≠ (.slice Ao93 t353.length co93 : Value).ownBlock ∧ some k_ ≠ (.slice Ao108 t363.length co108 : Value).ownBlock) (Kd.R_keptB ((znest (P := fun k_ => some k_ ≠ (v335 : Value).ownBlock ∧ some k_ ≠ (.slice Ao104 t359.length co104 : Value).ownBlock ∧ some k_ ≠ (v338 : Value).ownBlock ∧ some k_ ≠ (.slice Ao69 t340.length co69 : Value).ownBlock ∧ some k_ ≠ (.slice Ao84 t349.length co84 : Value).ownBlock ∧ some k_ ≠ (.slice Ao93 t353.length co93 : Value).ownBlock ∧ some k_ ≠ (.slice Ao108 t363.length co108 : Value).ownBlock ∧ k_ ≠ gb330 ∧ k_ ≠ gb331 ∧ k_ ≠ gb344 ∧ k_ ≠ gb348 ∧ k_ ≠ gb352 ∧ k_ ≠ gb357) rfl HO351.out (fun k_ hs2_ => hs2_.2.2.2.2.1))) hkp (fun k_ hk_ hs_ => (hk_.2) hs_)) (fun k_ hk_ => ⟨(by first | exact hk_.1.1.1.1.1.2 | exact hk_.1.1.1 | simp_all), (by first | exact hk_.1.1.1.1.2 | exact hk_.1.1.2.1 | simp_all), (by first | exact hk_.1.1.1.2 | exact hk_.1.1.2.2.1 | simp_all), (by first | exact hk_.1.1.2 | exact hk_.1.1.2.2.2 | simp_all)⟩)); have n7_ := Aside0.mk (blk_kept (zk0 BK352) hkp (fun hs_ => (fun e_ => (e_.2.2.2.2.2.2.2.2.2.2.2.1) rfl) hs_)); have n8_ := Aside0.mk (Kd.R_mono (ok' := fun k_ => some k_ ≠ (v338 : Value).ownBlock ∧ some k_ ≠ (.slice Ao69 t340.length co69 : Value).ownBlock ∧ some k_ ≠ (.slice Ao84 t349.length co84 : Value).ownBlock ∧ some k_ ≠ (.slice Ao108 t363.length co108 : Value).ownBlock) (Kd.R_keptB ((znest (P := fun k_ => some k_ ≠ (v335 : Value).ownBlock ∧ some k_ ≠ (.slice Ao104 t359.length co104 : Value).ownBlock ∧ some k_ ≠ (v338 : Value).ownBlock ∧ some k_ ≠ (.slice Ao69 t340.length co69 : Value).ownBlock ∧ some k_ ≠ (.slice Ao84 t349.length co84 : Value).ownBlock ∧ some k_ ≠ (.slice Ao93 t353.length co93 : Value).ownBlock ∧ some k_ ≠ (.slice Ao108 t363.length co108 : Value).ownBlock ∧ k_ ≠ gb330 ∧ k_ ≠ gb331 ∧ k_ ≠ gb344 ∧ k_ ≠ gb348 ∧ k_ ≠ gb352 ∧ k_ ≠ gb357) rfl HO355.out (fun k_ hs2_ => hs2_.2.2.2.2.2.1))) hkp (fun k_ hk_ hs_ => (hk_.2) hs_)) (fun k_ hk_ => ⟨(by first | exact hk_.1.1.1.1.1.2 | exact hk_.1.1.1 | simp_all), (by first | exact hk_.1.1.1.1.2 | exact hk_.1.1.2.1 | simp_all), (by first | exact hk_.1.1.1.2 | exact hk_.1.1.2.2.1 | simp_all), (by first | exact hk_.1.1.2 | exact hk_.1.1.2.2.2 | simp_all)⟩)); have n9_ := Aside0.mk (blk_kept (zk0 BK357) hkp (fun hs_ => (fun e_ => (e_.2.2.2.2.2.2.2.2.2.2.2.2) rfl) hs_)); have n10_ := Aside0.mk (Kd.R_mono (ok' := fun k_ => some k_ ≠ (v338 : Value).ownBlock ∧ some k_ ≠ (.slice Ao69 t340.length co69 : Value).ownBlock ∧ some k_ ≠ (.slice Ao84 t349.length co84 : Value).ownBlock ∧ some k_ ≠ (.slice Ao93 t353.length co93 : Value).ownBlock) (Kd.R_keptB ((znest (P := fun k_ => some k_ ≠ (v335 : Value).ownBlock ∧ some k_ ≠ (.slice Ao104 t359.length co104 : Value).ownBlock ∧ some k_ ≠ (v338 : Value).ownBlock ∧ some k_ ≠ (.slice Ao69 t340.length co69 : Value).ownBlock ∧ some k_ ≠ (.slice Ao84 t349.length co84 : Value).ownBlock ∧ some k_ ≠ (.slice Ao93 t353.length co93 : Value).ownBlock ∧ some k_ ≠ (.slice Ao108 t363.length co108 : Value).ownBlock ∧ k_ ≠ gb330 ∧ k_ ≠ gb331 ∧ k_ ≠ gb344 ∧ k_ ≠ gb348 ∧ k_ ≠ gb352 ∧ k_ ≠ gb357) rfl HO365.out (fun k_ hs2_ => hs2_.2.2.2.2.2.2.1))) hkp (fun k_ hk_ hs_ => (hk_.2) hs_)) (fun k_ hk_ => ⟨(by first | exact hk_.1.1.1.1.1.2 | exact hk_.1.1.1 | simp_all), (by first | exact hk_.1.1.1.1.2 | exact hk_.1.1.2.1 | simp_all), (by first | exact hk_.1.1.1.2 | exact hk_.1.1.2.2.1 | simp_all), (by first | exact hk_.1.1.2 | exact hk_.1.1.2.2.2 | simp_all)⟩)); have n11_ := Aside0.mk (hb); clear BK330; clear BK331; clear HO339; clear HO342; clear BK344; clear BK348; clear HO351; clear BK352; clear HO355; clear BK357; clear HO365; clear HB; clear HO336; clear HO347; clear HO361; have BK330 := n0_; have BK331 := n1_; have HO339 := n2_; have HO342 := n3_; have BK344 := n4_; have BK348 := n5_; have HO351 := n6_; have BK352 := n7_; have HO355 := n8_; have BK357 := n9_; have HO365 := n10_; have HB := n11_; clear n0_ n1_ n2_ n3_ n4_ n5_ n6_ n7_ n8_ n9_ n10_ n11_; (try clear hb); (try clear hkp); have hcz112_0 := zc0 BK352 0 rfl; have hfz112_0 := blk_frozen BK352.out 0) | ((with_reducible refine gate_callee (f := 23) rfl ?_); refine goesL_ (some 77) rfl rfl Try.func23 (by kernel_rfl) rfl #[.agg #[.slice Ao84 t349.length co84], .int .i64 t367] rfl (by (try simp only [zq1, zq2, zq3]); first | done | rfl | (simp only [List.length_drop, List.length_take]; rfl)) ?_; (with_reducible refine (laws_markRope.calls k (fun k_ => some k_ = (.slice Ao84 t349.length co84 : Value).ownBlock) (.slice Ao84 t349.length co84) t349 t367 t368 t369 w _ ?side1 ?side2 A37.out).mono ?_); (case side1 => repeat (first | (with_reducible first | exact HB.out | apply below_alloc | apply pw_below_drewN | apply below_drew1 | refine below_set ?_ GE330.out | refine below_set ?_ GE331.out | refine below_set ?_ GE344.out | refine below_set ?_ GE348.out | refine below_set ?_ GE352.out | refine below_set ?_ GE357.out) | exact HB.out)); (case side2 => exact Kd.R_tight rfl HO351.out); rintro e w113 ⟨rfl, hy0, hb, hkp⟩; refine ⟨_, rfl, ?_⟩; have n0_ := Aside0.mk (blk_kept (zk0 BK330) hkp (fun hs_ => (fun e_ => (Kd.R_ne HO351.out BK330.out (by decide)) e_) hs_)); have n1_ := Aside0.mk (blk_kept (zk0 BK331) hkp (fun hs_ => (fun e_ => (Kd.R_ne HO351.out BK331.out (by decide)) e_) hs_)); have n2_ := Aside0.mk (Kd.R_mono (ok' := fun k_ => some k_ ≠ (.slice Ao69 t340.length co69 : Value).ownBlock ∧ some k_ ≠ (.slice Ao84 t349.length co84 : Value).ownBlock ∧ some k_ ≠ (.slice Ao93 t353.length co93 : Value).ownBlock ∧ some k_ ≠ (.slice Ao108 t363.length co108 : Value).ownBlock) (Kd.R_keptB (HO339.out) hkp (fun k_ hk_ hs_ => (hk_.2.1) hs_)) (fun k_ hk_ => ⟨hk_.1.1, hk_.1.2.1, hk_.1.2.2.1, hk_.1.2.2.2⟩)); have n3_ := Aside0.mk (Kd.R_mono (ok' := fun k_ => some k_ ≠ (v338 : Value).ownBlock ∧ some k_ ≠ (.slice Ao84 t349.length co84 : Value).ownBlock ∧ some k_ ≠ (.slice Ao93 t353.length co93 : Value).ownBlock ∧ some k_ ≠ (.slice Ao108 t363.length co108 : Value).ownBlock) (Kd.R_keptB (HO342.out) hkp (fun k_ hk_ hs_ => (hk_.2.1) hs_)) (fun k_ hk_ => ⟨hk_.1.1, hk_.1.2.1, hk_.1.2.2.1, hk_.1.2.2.2⟩)); have n4_ := Aside0.mk (blk_kept (zk0 BK344) hkp (fun hs_ => (fun e_ => (Kd.R_ne HO351.out BK344.out (by decide)) e_) hs_)); have n5_ := Aside0.mk (blk_kept (zk0 BK348) hkp (fun hs_ => (fun e_ => (Kd.R_ne HO351.out BK348.out (by decide)) e_) hs_)); have n6_ := Aside0.mk (Kd.R_reok rfl hy0 (fun k_ e_ => HO351.out.1 k_ e_)); have n7_ := Aside0.mk (blk_kept (zk0 BK352) hkp (fun hs_ => (fun e_ => (Kd.R_ne HO351.out BK352.out (by decide)) e_) hs_)); have n8_ := Aside0.mk (Kd.R_mono (ok' := fun k_ => some k_ ≠ (v338 : Value).ownBlock ∧ some k_ ≠ (.slice Ao69 t340.length co69 : Value).ownBlock ∧ some k_ ≠ (.slice Ao84 t349.length co84 : Value).ownBlock ∧ some k_ ≠ (.slice Ao108 t363.length co108 : Value).ownBlock) (Kd.R_keptB (HO355.out) hkp (fun k_ hk_ hs_ => (hk_.2.2.1) hs_)) (fun k_ hk_ => ⟨hk_.1.1, hk_.1.2.1, hk_.1.2.2.1, hk_.1.2.2.2⟩)); have n9_ := Aside0.mk (blk_kept (zk0 BK357) hkp (fun hs_ => (fun e_ => (Kd.R_ne HO351.out BK357.out (by decide)) e_) hs_)); have n10_ := Aside0.mk (Kd.R_mono (ok' := fun k_ => some k_ ≠ (v338 : Value).ownBlock ∧ some k_ ≠ (.slice Ao69 t340.length co69 : Value).ownBlock ∧ some k_ ≠ (.slice Ao84 t349.length co84 : Value).ownBlock ∧ some k_ ≠ (.slice Ao93 t353.length co93 : Value).ownBlock) (Kd.R_keptB (HO365.out) hkp (fun k_ hk_ hs_ => (hk_.2.2.1) hs_)) (fun k_ hk_ => ⟨hk_.1.1, hk_.1.2.1, hk_.1.2.2.1, hk_.1.2.2.2⟩)); have n11_ := Aside0.mk (hb); clear BK330; clear BK331; clear HO339; clear HO342; clear BK344; clear BK348; clear HO351; clear BK352; clear HO355; clear BK357; clear HO365; clear HB; have BK330 := n0_; have BK331 := n1_; have HO339 := n2_; have HO342 := n3_; have BK344 := n4_; have BK348 := n5_; have HO351 := n6_; have BK352 := n7_; have HO355 := n8_; have BK357 := n9_; have HO365 := n10_; have HB := n11_; clear n0_ n1_ n2_ n3_ n4_ n5_ n6_ n7_ n8_ n9_ n10_ n11_; (try clear hb); (try clear hkp); (try clear hy0); have hcz114_0 := zc0 BK357 0 rfl; have hfz114_0 := blk_frozen BK357.out 0; have hcz115_0 := zc0 BK344 0 rfl; have hfz115_0 := blk_frozen BK344.out 0) | (go_at_call 20; (with_reducible refine (laws_eqRope.calls k _ _ t353 _ _ t340 true _ ?side1 ?side2 ?side3 ?side4 A39.out).mono ?_); (case side1 => repeat (first | exact (Kd.R_reads' HO355.out).2.2 | (with_reducible refine Kd.C_alloc ?_ _) | (with_reducible refine Kd.C_drewN ?_ _) | (with_reducible refine Kd.C_drew ?_))); (case side2 => exact (Kd.R_reads' HO355.out).2.1); (case side3 => repeat (first | exact (Kd.R_reads' HO342.out).2.2 | (with_reducible refine Kd.C_alloc ?_ _) | (with_reducible refine Kd.C_drewN ?_ _) | (with_reducible refine Kd.C_drew ?_))); (case side4 => exact (Kd.R_reads' HO342.out).2.1); rintro e w116 ⟨rfl, hb⟩; replace HO339 := zrb HO339 hb; replace HO342 := zrb HO342 hb; replace HO351 := zrb HO351 hb; replace HO355 := zrb HO355 hb; replace HO365 := zrb HO365 hb; replace BK330 := zb0 BK330 hb; replace BK331 := zb0 BK331 hb; replace BK344 := zb0 BK344 hb; replace BK348 := zb0 BK348 hb; replace BK352 := zb0 BK352 hb; replace BK357 := zb0 BK357 hb; replace HB := zhs HB hb; (try clear hb); (try clear hb2); (try clear hk); (try clear hi); have hcz117_0 := zc0 BK357 0 rfl; have hfz117_0 := blk_frozen BK357.out 0) | ((with_reducible refine gate_callee (f := 23) rfl ?_); refine goesL_ (some 93) rfl rfl Try.func23 (by kernel_rfl) rfl #[.agg #[.slice Ao93 t353.length co93], .int .i64 1] rfl (by (try simp only [zq1, zq2, zq3]); first | done | rfl | (simp only [List.length_drop, List.length_take]; rfl)) ?_; (with_reducible refine (laws_markRope.calls k (fun k_ => some k_ = (.slice Ao93 t353.length co93 : Value).ownBlock) (.slice Ao93 t353.length co93) t353 1 t371 t372 w _ ?side1 ?side2 A41.out).mono ?_); (case side1 => repeat (first | (with_reducible first | exact HB.out | apply below_alloc | apply pw_below_drewN | apply below_drew1 | refine below_set ?_ GE330.out | refine below_set ?_ GE331.out | refine below_set ?_ GE344.out | refine below_set ?_ GE348.out | refine below_set ?_ GE352.out | refine below_set ?_ GE357.out) | exact HB.out)); (case side2 => exact Kd.R_tight rfl HO355.out); rintro e w118 ⟨rfl, hy0, hb, hkp⟩; refine ⟨_, rfl, ?_⟩; have n0_ := Aside0.mk (blk_kept (zk0 BK330) hkp (fun hs_ => (fun e_ => (Kd.R_ne HO355.out BK330.out (by decide)) e_) hs_)); have n1_ := Aside0.mk (blk_kept (zk0 BK331) hkp (fun hs_ => (fun e_ => (Kd.R_ne HO355.out BK331.out (by decide)) e_) hs_)); have n2_ := Aside0.mk (Kd.R_mono (ok' := fun k_ => some k_ ≠ (.slice Ao69 t340.length co69 : Value).ownBlock ∧ some k_ ≠ (.slice Ao84 t349.length co84 : Value).ownBlock ∧ some k_ ≠ (.slice Ao93 t353.length co93 : Value).ownBlock ∧ some k_ ≠ (.slice Ao108 t363.length co108 : Value).ownBlock) (Kd.R_keptB (HO339.out) hkp (fun k_ hk_ hs_ => (hk_.2.2.1) hs_)) (fun k_ hk_ => ⟨hk_.1.1, hk_.1.2.1, hk_.1.2.2.1, hk_.1.2.2.2⟩)); have n3_ := Aside0.mk (Kd.R_mono (ok' := fun k_ => some k_ ≠ (v338 : Value).ownBlock ∧ some k_ ≠ (.slice Ao84 t349.length co84 : Value).ownBlock ∧ some k_ ≠ (.slice Ao93 t353.length co93 : Value).ownBlock ∧ some k_ ≠ (.slice Ao108 t363.length co108 : Value).ownBlock) (Kd.R_keptB (HO342.out) hkp (fun k_ hk_ hs_ => (hk_.2.2.1) hs_)) (fun k_ hk_ => ⟨hk_.1.1, hk_.1.2.1, hk_.1.2.2.1, hk_.1.2.2.2⟩)); have n4_ := Aside0.mk (blk_kept (zk0 BK344) hkp (fun hs_ => (fun e_ => (Kd.R_ne HO355.out BK344.out (by decide)) e_) hs_)); have n5_ := Aside0.mk (blk_kept (zk0 BK348) hkp (fun hs_ => (fun e_ => (Kd.R_ne HO355.out BK348.out (by decide)) e_) hs_)); have n6_ := Aside0.mk (Kd.R_mono (ok' := fun k_ => some k_ ≠ (v338 : Value).ownBlock ∧ some k_ ≠ (.slice Ao69 t340.length co69 : Value).ownBlock ∧ some k_ ≠ (.slice Ao93 t353.length co93 : Value).ownBlock ∧ some k_ ≠ (.slice Ao108 t363.length co108 : Value).ownBlock) (Kd.R_keptB (HO351.out) hkp (fun k_ hk_ hs_ => (hk_.2.2.1) hs_)) (fun k_ hk_ => ⟨hk_.1.1, hk_.1.2.1, hk_.1.2.2.1, hk_.1.2.2.2⟩)); have n7_ := Aside0.mk (blk_kept (zk0 BK352) hkp (fun hs_ => (fun e_ => (Kd.R_ne HO355.out BK352.out (by decide)) e_) hs_)); have n8_ := Aside0.mk (Kd.R_reok rfl hy0 (fun k_ e_ => HO355.out.1 k_ e_)); have n9_ := Aside0.mk (blk_kept (zk0 BK357) hkp (fun hs_ => (fun e_ => (Kd.R_ne HO355.out BK357.out (by decide)) e_) hs_)); have n10_ := Aside0.mk (Kd.R_mono (ok' := fun k_ => some k_ ≠ (v338 : Value).ownBlock ∧ some k_ ≠ (.slice Ao69 t340.length co69 : Value).ownBlock ∧ some k_ ≠ (.slice Ao84 t349.length co84 : Value).ownBlock ∧ some k_ ≠ (.slice Ao93 t353.length co93 : Value).ownBlock) (Kd.R_keptB (HO365.out) hkp (fun k_ hk_ hs_ => (hk_.2.2.2) hs_)) (fun k_ hk_ => ⟨hk_.1.1, hk_.1.2.1, hk_.1.2.2.1, hk_.1.2.2.2⟩)); have n11_ := Aside0.mk (hb); clear BK330; clear BK331; clear HO339; clear HO342; clear BK344; clear BK348; clear HO351; clear BK352; clear HO355; clear BK357; clear HO365; clear HB; have BK330 := n0_; have BK331 := n1_; have HO339 := n2_; have HO342 := n3_; have BK344 := n4_; have BK348 := n5_; have HO351 := n6_; have BK352 := n7_; have HO355 := n8_; have BK357 := n9_; have HO365 := n10_; have HB := n11_; clear n0_ n1_ n2_ n3_ n4_ n5_ n6_ n7_ n8_ n9_ n10_ n11_; (try clear hb); (try clear hkp); (try clear hy0); have hcz119_0 := zc0 BK357 0 rfl; have hfz119_0 := blk_frozen BK357.out 0) | ((with_reducible refine gate_callee (f := 24) rfl ?_); refine goesL_ (some 96) rfl rfl Try.func24 (by kernel_rfl) rfl #[.agg #[.slice Ao93 t372.length co93], .int .i64 1] rfl (by (try simp only [zq1, zq2, zq3]); first | done | (rw [show t372.length = t353.length from (Kd.R_reads' HO355.out).1.symm] <;> rfl) | rfl | (simp only [List.length_drop, List.length_take]; rfl)) ?_; (with_reducible refine (laws_heldRope.calls k _ _ t372 1 t373 _ ?side1 ?side2 A42.out).mono ?_); (case side1 => repeat (first | exact (Kd.R_reads' HO355.out).2.2 | (with_reducible refine Kd.C_alloc ?_ _) | (with_reducible refine Kd.C_drewN ?_ _) | (with_reducible refine Kd.C_drew ?_))); (case side2 => rw [show t372.length = t353.length from (Kd.R_reads' HO355.out).1.symm]; exact (Kd.R_reads' HO355.out).2.1); rintro e w120 ⟨rfl, hb⟩; refine ⟨_, rfl, ?_⟩; replace HO339 := zrb HO339 hb; replace HO342 := zrb HO342 hb; replace HO351 := zrb HO351 hb; replace HO355 := zrb HO355 hb; replace HO365 := zrb HO365 hb; replace BK330 := zb0 BK330 hb; replace BK331 := zb0 BK331 hb; replace BK344 := zb0 BK344 hb; replace BK348 := zb0 BK348 hb; replace BK352 := zb0 BK352 hb; replace BK357 := zb0 BK357 hb; replace HB := zhs HB hb; (try clear hb); (try clear hb2); (try clear hk); (try clear hi)))
               replace HO339 := Aside0.mk (Kd.R_drew HO339.out)
               replace HO342 := Aside0.mk (Kd.R_drew HO342.out)
               replace HO351 := Aside0.mk (Kd.R_drew HO351.out)
               replace HO355 := Aside0.mk (Kd.R_drew HO355.out)
               replace HO365 := Aside0.mk (Kd.R_drew HO365.out)
               replace BK330 := Aside0.mk (blk_drew BK330.out)
               replace BK331 := Aside0.mk (blk_drew BK331.out)
               replace BK344 := Aside0.mk (blk_drew BK344.out)
               replace BK348 := Aside0.mk (blk_drew BK348.out)
               replace BK352 := Aside0.mk (blk_drew BK352.out)
               replace BK357 := Aside0.mk (blk_drew BK357.out)
               replace HB := Aside0.mk (below_drew1 HB.out)
               refine start_ (n := 13) (S := fun w' => w'.cell? ⟨gb330, 0, none⟩ = some (.slice A0_0 l0_0.length c0_0) ∧ w'.cell? ⟨gb331, 0, none⟩ = some (.slice A1_0 l1_0.length c1_0)) (ds := []) #[zF, zF, zF, zF, zF, zF, zF, zF, zF, zF, zF, zF, zF] (by kernel_rfl) rfl rfl ⟨zc0 BK330 0 rfl, zc0 BK331 0 rfl⟩ (fun hHeld => ?_); refine with_tabW laws_FnExactPartText.tab31 laws_FnExactPartText.bits31 (fun HT_ HW_ => ?_)
               generalize w120.drew = w121 at HO339 HO342 HO351 HO355 HO365 BK330 BK331 BK344 BK348 BK352 BK357 HB hHeld ⊢
               refine pure_ (i := 4) (N := some 107) (v := ?_) (a' := ?_) #[zF, zF, zF, zF, zT, zF, zF, zF, zF, zF, zF, zF, zF] rfl rfl (any_of HT_.out (by kernel_rfl)) (fun _ _ _ h => h) (Or.inl ⟨by rfl, ?_⟩) ?_ ?_
               rotate_left
               ·intro w'
                go_simp
                with_reducible rfl
               rotate_left
               ·simp only [Act.put, zp1, zp2, zp3, i64_w, i32_w]
                rfl
               refine pure_ (i := 5) (N := some 108) (v := ?_) (a' := ?_) #[zF, zF, zF, zF, zT, zT, zF, zF, zF, zF, zF, zF, zF] rfl rfl (any_of HT_.out (by kernel_rfl)) (fun _ _ _ h => h) (Or.inl ⟨by rfl, ?_⟩) ?_ ?_
               rotate_left
               ·intro w'
                go_simp
                with_reducible rfl
               rotate_left
               ·simp only [Act.put, zp1, zp2, zp3, i64_w, i32_w]
                rfl
               refine take_ (i := 0) (N := some 103) (v := ?_) (a' := ?_) #[zT, zF, zF, zF, zT, zT, zF, zF, zF, zF, zF, zF, zF] rfl rfl (take_ofW HT_.out HW_.out (by kernel_rfl)) (fun _ _ _ h => h) (Or.inl ⟨by rfl, ?_⟩) hHeld ?_ ?_
               rotate_left
               ·rintro w' ⟨s0, s1⟩
                go_simp
                with_reducible rfl
               rotate_left
               ·simp only [Act.put, zp1, zp2, zp3, i64_w, i32_w]
                rfl
               refine take_ (i := 2) (N := some 105) (v := ?_) (a' := ?_) #[zT, zF, zT, zF, zT, zT, zF, zF, zF, zF, zF, zF, zF] rfl rfl (take_ofW HT_.out HW_.out (by kernel_rfl)) (fun _ _ _ h => h) (Or.inl ⟨by rfl, ?_⟩) hHeld ?_ ?_
               rotate_left
               ·rintro w' ⟨s0, s1⟩
                go_simp
                with_reducible rfl
               rotate_left
               ·simp only [Act.put, zp1, zp2, zp3, i64_w, i32_w]
                rfl
               refine join_ (σ := Value × Value × Value × Nat) 2 #[zT, zT, zT, zT, zT, zT, zT, zT, zT, zT, zT, zF, zF] (fun s_ => [(104, .agg #[s_.1]), (106, .agg #[s_.2.1]), (109, .tuple #[.agg #[s_.2.2.1], .bool t383]), (19, .pointer (some ⟨s_.2.2.2, 0, none⟩)), (102, .tuple #[.agg #[s_.2.2.1], .bool t383]), (110, .agg #[s_.2.2.1]), (111, .bool t383)]) (fun s_ w' => (w'.cell? ⟨gb330, 0, none⟩ = some (.slice A0_0 l0_0.length c0_0) ∧ w'.cell? ⟨gb331, 0, none⟩ = some (.slice A1_0 l1_0.length c1_0)) ∧ (Kd.R k60 60 w' w.heap.size (fun k_ => some k_ ≠ (.slice Ao69 t340.length co69 : Value).ownBlock ∧ some k_ ≠ (.slice Ao84 t349.length co84 : Value).ownBlock ∧ some k_ ≠ (.slice Ao93 t353.length co93 : Value).ownBlock ∧ some k_ ≠ (.slice Ao108 t363.length co108 : Value).ownBlock ∧ some k_ ≠ (s_.2.1 : Value).ownBlock ∧ some k_ ≠ (s_.2.2.1 : Value).ownBlock) v338 t337) ∧ (Kd.R k60 60 w' w.heap.size (fun k_ => some k_ ≠ (v338 : Value).ownBlock ∧ some k_ ≠ (.slice Ao84 t349.length co84 : Value).ownBlock ∧ some k_ ≠ (.slice Ao93 t353.length co93 : Value).ownBlock ∧ some k_ ≠ (.slice Ao108 t363.length co108 : Value).ownBlock ∧ some k_ ≠ (s_.2.1 : Value).ownBlock ∧ some k_ ≠ (s_.2.2.1 : Value).ownBlock) (.slice Ao69 t340.length co69) t340) ∧ (Kd.R k60 60 w' w.heap.size (fun k_ => some k_ ≠ (v338 : Value).ownBlock ∧ some k_ ≠ (.slice Ao69 t340.length co69 : Value).ownBlock ∧ some k_ ≠ (.slice Ao93 t353.length co93 : Value).ownBlock ∧ some k_ ≠ (.slice Ao108 t363.length co108 : Value).ownBlock ∧ some k_ ≠ (s_.2.1 : Value).ownBlock ∧ some k_ ≠ (s_.2.2.1 : Value).ownBlock) (.slice Ao84 t349.length co84) t369) ∧ (Kd.R k60 60 w' w.heap.size (fun k_ => some k_ ≠ (v338 : Value).ownBlock ∧ some k_ ≠ (.slice Ao69 t340.length co69 : Value).ownBlock ∧ some k_ ≠ (.slice Ao84 t349.length co84 : Value).ownBlock ∧ some k_ ≠ (.slice Ao108 t363.length co108 : Value).ownBlock ∧ some k_ ≠ (s_.2.1 : Value).ownBlock ∧ some k_ ≠ (s_.2.2.1 : Value).ownBlock) (.slice Ao93 t353.length co93) t372) ∧ (Kd.R k60 60 w' w.heap.size (fun k_ => some k_ ≠ (v338 : Value).ownBlock ∧ some k_ ≠ (.slice Ao69 t340.length co69 : Value).ownBlock ∧ some k_ ≠ (.slice Ao84 t349.length co84 : Value).ownBlock ∧ some k_ ≠ (.slice Ao93 t353.length co93 : Value).ownBlock ∧ some k_ ≠ (s_.2.1 : Value).ownBlock ∧ some k_ ≠ (s_.2.2.1 : Value).ownBlock) (.slice Ao108 t363.length co108) t363) ∧ (Kd.S (Kd.slice 5 (Kd.int .u8)) 97 w' w.heap.size (fun _ => True) s_.1 t374) ∧ (Kd.R k60 60 w' w.heap.size (fun k_ => some k_ ≠ (v338 : Value).ownBlock ∧ some k_ ≠ (.slice Ao69 t340.length co69 : Value).ownBlock ∧ some k_ ≠ (.slice Ao84 t349.length co84 : Value).ownBlock ∧ some k_ ≠ (.slice Ao93 t353.length co93 : Value).ownBlock ∧ some k_ ≠ (.slice Ao108 t363.length co108 : Value).ownBlock ∧ some k_ ≠ (s_.2.2.1 : Value).ownBlock) s_.2.1 t377) ∧ (Kd.R k60 60 w' w.heap.size (fun k_ => some k_ ≠ (v338 : Value).ownBlock ∧ some k_ ≠ (.slice Ao69 t340.length co69 : Value).ownBlock ∧ some k_ ≠ (.slice Ao84 t349.length co84 : Value).ownBlock ∧ some k_ ≠ (.slice Ao93 t353.length co93 : Value).ownBlock ∧ some k_ ≠ (.slice Ao108 t363.length co108 : Value).ownBlock ∧ some k_ ≠ (s_.2.1 : Value).ownBlock) s_.2.2.1 t380) ∧ (w'.heap[gb330]? = some (.cells #[.slice A0_0 l0_0.length c0_0] 24 (0, 0))) ∧ (w'.heap[gb331]? = some (.cells #[.slice A1_0 l1_0.length c1_0] 27 (0, 0))) ∧ (w'.heap[gb344]? = some (.cells #[.slice Ao69 t340.length co69] 32 (0, 0))) ∧ (w'.heap[gb348]? = some (.cells #[.slice Ao75 t345.length co75] 35 (0, 0))) ∧ (w'.heap[gb352]? = some (.cells #[.slice Ao84 t349.length co84] 32 (0, 0))) ∧ (w'.heap[gb357]? = some (.cells #[.slice Ao93 t353.length co93] 32 (0, 0))) ∧ (w'.heap[s_.2.2.2]? = some (.cells #[.slice none 0 0] 32 (0, 0))) ∧ (w.heap.size ≤ s_.2.2.2) ∧ (w.heap.size ≤ s_.2.2.2) ∧ (gb330 ≠ s_.2.2.2) ∧ (s_.2.2.2 ≠ gb330) ∧ (gb331 ≠ s_.2.2.2) ∧ (s_.2.2.2 ≠ gb331) ∧ (gb344 ≠ s_.2.2.2) ∧ (s_.2.2.2 ≠ gb344) ∧ (gb348 ≠ s_.2.2.2) ∧ (s_.2.2.2 ≠ gb348) ∧ (gb352 ≠ s_.2.2.2) ∧ (s_.2.2.2 ≠ gb352) ∧ (gb357 ≠ s_.2.2.2) ∧ (s_.2.2.2 ≠ gb357) ∧ (Below w.heap.size w w')) ?_ ?_
               rotate_left
               ·intro hCont
                refine two_ (i := 1) (j := 10) (Ni := some 104) (Nj := some 19) #[zT, zT, zT, zF, zT, zT, zF, zF, zF, zF, zF, zF, zF] #[zT, zF, zT, zF, zT, zT, zF, zF, zF, zF, zT, zF, zF] rfl rfl rfl rfl (two_of HT_.out (by kernel_rfl)) (by decide) (by decide) (fun K hK => ?_) (fun K hK => ?_)
                ·skip
                 refine goes_ Try.func17 (by kernel_rfl) rfl #[.agg #[.slice A0_0 l0_0.length c0_0]] (by rfl) rfl rfl (by (try simp only [zq1, zq2, zq3]); first | done | rfl | (simp only [List.length_drop, List.length_take]; rfl)) ?_
                 with_reducible refine (laws_toMemory.calls k _ _ l0_0 t374 _ ?side1 ?side2 A45.out).mono ?_
                 (case side1 => exact Kd.C_below HR0_0.out (zh0 HB))
                 (case side2 => exact HC0_0.out)
                 rintro e w122 ⟨v375, rfl, ho0, hb⟩
                 refine ⟨_, rfl, ?_⟩
                 have HO376 := Aside0.mk (Kd.S_lower ho0 (below_size (zh0 HB)))
                 replace HO339 := zrb HO339 hb
                 replace HO342 := zrb HO342 hb
                 replace HO351 := zrb HO351 hb
                 replace HO355 := zrb HO355 hb
                 replace HO365 := zrb HO365 hb
                 replace BK330 := zb0 BK330 hb
                 replace BK331 := zb0 BK331 hb
                 replace BK344 := zb0 BK344 hb
                 replace BK348 := zb0 BK348 hb
                 replace BK352 := zb0 BK352 hb
                 replace BK357 := zb0 BK357 hb
                 replace HB := zhs HB hb
                 (try clear hb)
                 (try clear hb2)
                 (try clear hk)
                 (try clear hi)
                 (try clear ho0)
                 refine hK.out _ _ ⟨zc0 BK330 0 rfl, zc0 BK331 0 rfl⟩ (fun hHeld => ?_)
                 clear hK K
                 refine norm_ (a' := ?_) ?_ ?_
                 rotate_left
                 ·show Act.put _ (some 104) _ = _
                  simp only [Act.put, zp1, zp2, zp3, i64_w, i32_w]
                  rfl
                 refine two_ (i := 3) (j := 10) (Ni := some 106) (Nj := some 19) #[zT, zT, zT, zT, zT, zT, zF, zF, zF, zF, zF, zF, zF] #[zT, zT, zT, zF, zT, zT, zF, zF, zF, zF, zT, zF, zF] rfl rfl rfl rfl (two_of HT_.out (by kernel_rfl)) (by decide) (by decide) (fun K hK => ?_) (fun K hK => ?_)
                 ·skip
                  refine goes_ Try.func18 (by kernel_rfl) rfl #[.agg #[.slice A1_0 l1_0.length c1_0]] (by rfl) rfl rfl (by (try simp only [zq1, zq2, zq3]); first | done | rfl | (simp only [List.length_drop, List.length_take]; rfl)) ?_
                  with_reducible refine (laws_toRope.calls k _ _ l1_0 t377 _ ?side1 ?side2 A46.out).mono ?_
                  (case side1 => exact Kd.C_below HR1_0.out (zh0 HB))
                  (case side2 => exact HC1_0.out)
                  rintro e w123 ⟨v378, rfl, ho0, hb⟩
                  refine ⟨_, rfl, ?_⟩
                  have HO379 := Aside0.mk (Kd.R_lower (Kd.R_new' (Kd.R_new' (Kd.R_new' (Kd.R_new' (Kd.R_new' ho0 (Kd.R_lt (zr0 HO339))) (Kd.R_lt (zr0 HO342))) (Kd.R_lt (zr0 HO351))) (Kd.R_lt (zr0 HO355))) (Kd.R_lt (zr0 HO365))) (below_size (zh0 HB)))
                  replace HO339 := Aside0.mk (Kd.R_elder' (zr0 HO339) (Kd.R_base ho0) hb)
                  replace HO342 := Aside0.mk (Kd.R_elder' (zr0 HO342) (Kd.R_base ho0) hb)
                  replace HO351 := Aside0.mk (Kd.R_elder' (zr0 HO351) (Kd.R_base ho0) hb)
                  replace HO355 := Aside0.mk (Kd.R_elder' (zr0 HO355) (Kd.R_base ho0) hb)
                  replace HO365 := Aside0.mk (Kd.R_elder' (zr0 HO365) (Kd.R_base ho0) hb)
                  replace HO376 := zsb HO376 hb
                  replace BK330 := zb0 BK330 hb
                  replace BK331 := zb0 BK331 hb
                  replace BK344 := zb0 BK344 hb
                  replace BK348 := zb0 BK348 hb
                  replace BK352 := zb0 BK352 hb
                  replace BK357 := zb0 BK357 hb
                  replace HB := zhs HB hb
                  (try clear hb)
                  (try clear hb2)
                  (try clear hk)
                  (try clear hi)
                  (try clear ho0)
                  obtain ⟨Ao124, co124, eo124⟩ := Kd.S_slice HO376.out
                  (first | subst eo124 | (injection eo124 with f1_ f2_ f3_; have f4_ := f1_.symm; have f5_ := f3_.symm; clear f1_ f2_ f3_; subst f4_; subst f5_))
                  obtain ⟨Ao125, co125, eo125⟩ := Kd.R_slice HO379.out
                  (first | subst eo125 | (injection eo125 with f1_ f2_ f3_; have f4_ := f1_.symm; have f5_ := f3_.symm; clear f1_ f2_ f3_; subst f4_; subst f5_))
                  refine hK.out _ _ ⟨zc0 BK330 0 rfl, zc0 BK331 0 rfl⟩ (fun hHeld => ?_)
                  clear hK K
                  refine norm_ (a' := ?_) ?_ ?_
                  rotate_left
                  ·show Act.put _ (some 106) _ = _
                   simp only [Act.put, zp1, zp2, zp3, i64_w, i32_w]
                   rfl
                  refine two_ (i := 6) (j := 10) (Ni := some 109) (Nj := some 19) #[zT, zT, zT, zT, zT, zT, zT, zF, zF, zF, zF, zF, zF] #[zT, zT, zT, zT, zT, zT, zF, zF, zF, zF, zT, zF, zF] rfl rfl rfl rfl (two_of HT_.out (by kernel_rfl)) (by decide) (by decide) (fun K hK => ?_) (fun K hK => ?_)
                  ·skip
                   refine goes_ Try.func30 (by kernel_rfl) rfl #[.agg #[.slice Ao124 t374.length co124], .agg #[.slice Ao125 t377.length co125], .int .i64 a2, .int .i64 a3] (by rfl) rfl rfl (by (try simp only [zq1, zq2, zq3]); first | done | rfl | (simp only [List.length_drop, List.length_take]; rfl)) ?_
                   with_reducible refine (impl_PartText.calls k _ _ t374 _ _ t377 a2 a3 t380 t383 _ ?side1 ?side2 ?side3 ?side4 A47.out).mono ?_
                   (case side1 => repeat (first | exact (Kd.S_reads' HO376.out).2.2 | (with_reducible refine Kd.C_alloc ?_ _) | (with_reducible refine Kd.C_drewN ?_ _) | (with_reducible refine Kd.C_drew ?_)))
                   (case side2 => exact (Kd.S_reads' HO376.out).2.1)
                   (case side3 => repeat (first | exact (Kd.R_reads' HO379.out).2.2 | (with_reducible refine Kd.C_alloc ?_ _) | (with_reducible refine Kd.C_drewN ?_ _) | (with_reducible refine Kd.C_drew ?_)))
                   (case side4 => exact (Kd.R_reads' HO379.out).2.1)
                   rintro e w126 ⟨v381, rfl, ho0, hb⟩
                   refine ⟨_, rfl, ?_⟩
                   have HO382 := Aside0.mk (Kd.R_lower (Kd.R_new' (Kd.R_new' (Kd.R_new' (Kd.R_new' (Kd.R_new' (Kd.R_new' ho0 (Kd.R_lt (zr0 HO339))) (Kd.R_lt (zr0 HO342))) (Kd.R_lt (zr0 HO351))) (Kd.R_lt (zr0 HO355))) (Kd.R_lt (zr0 HO365))) (Kd.R_lt (zr0 HO379))) (below_size (zh0 HB)))
                   replace HO339 := Aside0.mk (Kd.R_elder' (zr0 HO339) (Kd.R_base ho0) hb)
                   replace HO342 := Aside0.mk (Kd.R_elder' (zr0 HO342) (Kd.R_base ho0) hb)
                   replace HO351 := Aside0.mk (Kd.R_elder' (zr0 HO351) (Kd.R_base ho0) hb)
                   replace HO355 := Aside0.mk (Kd.R_elder' (zr0 HO355) (Kd.R_base ho0) hb)
                   replace HO365 := Aside0.mk (Kd.R_elder' (zr0 HO365) (Kd.R_base ho0) hb)
                   replace HO376 := zsb HO376 hb
                   replace HO379 := Aside0.mk (Kd.R_elder' (zr0 HO379) (Kd.R_base ho0) hb)
                   replace BK330 := zb0 BK330 hb
                   replace BK331 := zb0 BK331 hb
                   replace BK344 := zb0 BK344 hb
                   replace BK348 := zb0 BK348 hb
                   replace BK352 := zb0 BK352 hb
                   replace BK357 := zb0 BK357 hb
                   replace HB := zhs HB hb
                   (try clear hb)
                   (try clear hb2)
                   (try clear hk)
                   (try clear hi)
                   (try clear ho0)
                   refine hK.out _ _ ⟨zc0 BK330 0 rfl, zc0 BK331 0 rfl⟩ (fun hHeld => ?_)
                   clear hK K
                   refine norm_ (a' := ?_) ?_ ?_
                   rotate_left
                   ·show Act.put _ (some 109) _ = _
                    simp only [Act.put, zp1, zp2, zp3, i64_w, i32_w]
                    rfl
                   refine pure_ (i := 7) (N := some 102) (v := ?_) (a' := ?_) #[zT, zT, zT, zT, zT, zT, zT, zT, zF, zF, zF, zF, zF] rfl rfl (any_of HT_.out (by kernel_rfl)) (fun _ _ _ h => h) (Or.inl ⟨by rfl, ?_⟩) ?_ ?_
                   rotate_left
                   ·intro w'
                    go_simp
                    with_reducible rfl
                   rotate_left
                   ·simp only [Act.put, zp1, zp2, zp3, i64_w, i32_w]
                    rfl
                   refine pure_ (i := 8) (N := some 110) (v := ?_) (a' := ?_) #[zT, zT, zT, zT, zT, zT, zT, zT, zT, zF, zF, zF, zF] rfl rfl (any_of HT_.out (by kernel_rfl)) (fun _ _ _ h => h) (Or.inl ⟨by rfl, ?_⟩) ?_ ?_
                   rotate_left
                   ·intro w'
                    go_simp
                    with_reducible rfl
                   rotate_left
                   ·simp only [Act.put, zp1, zp2, zp3, i64_w, i32_w]
                    rfl
                   refine pure_ (i := 9) (N := some 111) (v := ?_) (a' := ?_) #[zT, zT, zT, zT, zT, zT, zT, zT, zT, zT, zF, zF, zF] rfl rfl (any_of HT_.out (by kernel_rfl)) (fun _ _ _ h => h) (Or.inl ⟨by rfl, ?_⟩) ?_ ?_
                   rotate_left
                   ·intro w'
                    go_simp
                    with_reducible rfl
                   rotate_left
                   ·simp only [Act.put, zp1, zp2, zp3, i64_w, i32_w]
                    rfl
                   refine one_ (i := 10) (N := some 19) #[zT, zT, zT, zT, zT, zT, zT, zT, zT, zT, zT, zF, zF] rfl rfl (one_of HT_.out (by kernel_rfl)) (by decide) (fun K hK => ?_)
                   refine box_step ?hg (N := 19) ?hd (cs := #[.slice none 0 0]) (t := 32) ?hr ?_; (case hd => rfl); (case hg => rfl); (case hr => first | (go_simp; done) | (go_simp; rfl))
                   intro gb384 hg w127 hbox hb
                   have BK384 := Aside0.mk (hbox)
                   have GW384 := zge HB hg
                   have GE384 := zge HB hg
                   have NB330_384 := znl BK330 hg
                   have NB384_330 := znr BK330 hg
                   have NB331_384 := znl BK331 hg
                   have NB384_331 := znr BK331 hg
                   have NB344_384 := znl BK344 hg
                   have NB384_344 := znr BK344 hg
                   have NB348_384 := znl BK348 hg
                   have NB384_348 := znr BK348 hg
                   have NB352_384 := znl BK352 hg
                   have NB384_352 := znr BK352 hg
                   have NB357_384 := znl BK357 hg
                   have NB384_357 := znr BK357 hg
                   replace HO339 := zrb HO339 hb
                   replace HO342 := zrb HO342 hb
                   replace HO351 := zrb HO351 hb
                   replace HO355 := zrb HO355 hb
                   replace HO365 := zrb HO365 hb
                   replace HO376 := zsb HO376 hb
                   replace HO379 := zrb HO379 hb
                   replace HO382 := zrb HO382 hb
                   replace BK330 := zb0 BK330 hb
                   replace BK331 := zb0 BK331 hb
                   replace BK344 := zb0 BK344 hb
                   replace BK348 := zb0 BK348 hb
                   replace BK352 := zb0 BK352 hb
                   replace BK357 := zb0 BK357 hb
                   replace HB := zhs HB hb
                   clear hb hbox hg
                   refine hK.out _ _ ⟨zc0 BK330 0 rfl, zc0 BK331 0 rfl⟩ (fun hHeld => ?_)
                   clear hK K
                   refine norm_ (a' := ?_) ?_ ?_
                   rotate_left
                   ·show Act.put _ (some 19) _ = _
                    simp only [Act.put, zp1, zp2, zp3, i64_w, i32_w]
                    rfl
                   exact norm_ (by simp only [putAll, Act.put, zp1, zp2, zp3]) (hCont (.slice Ao124 t374.length co124, .slice Ao125 t377.length co125, v381, gb384) _ ⟨hHeld, (by (with_reducible repeat (first | apply Kd.R_alloc | apply Kd.R_drewN | apply Kd.R_drew)); exact Kd.R_mono HO339.out (fun _ hk => ⟨hk.1.1.1, ⟨hk.1.1.2.1, ⟨hk.1.1.2.2.1, ⟨hk.1.1.2.2.2, ⟨hk.1.2, hk.2⟩⟩⟩⟩⟩)), (by (with_reducible repeat (first | apply Kd.R_alloc | apply Kd.R_drewN | apply Kd.R_drew)); exact Kd.R_mono HO342.out (fun _ hk => ⟨hk.1.1.1, ⟨hk.1.1.2.1, ⟨hk.1.1.2.2.1, ⟨hk.1.1.2.2.2, ⟨hk.1.2, hk.2⟩⟩⟩⟩⟩)), (by (with_reducible repeat (first | apply Kd.R_alloc | apply Kd.R_drewN | apply Kd.R_drew)); exact Kd.R_mono HO351.out (fun _ hk => ⟨hk.1.1.1, ⟨hk.1.1.2.1, ⟨hk.1.1.2.2.1, ⟨hk.1.1.2.2.2, ⟨hk.1.2, hk.2⟩⟩⟩⟩⟩)), (by (with_reducible repeat (first | apply Kd.R_alloc | apply Kd.R_drewN | apply Kd.R_drew)); exact Kd.R_mono HO355.out (fun _ hk => ⟨hk.1.1.1, ⟨hk.1.1.2.1, ⟨hk.1.1.2.2.1, ⟨hk.1.1.2.2.2, ⟨hk.1.2, hk.2⟩⟩⟩⟩⟩)), (by (with_reducible repeat (first | apply Kd.R_alloc | apply Kd.R_drewN | apply Kd.R_drew)); exact Kd.R_mono HO365.out (fun _ hk => ⟨hk.1.1.1, ⟨hk.1.1.2.1, ⟨hk.1.1.2.2.1, ⟨hk.1.1.2.2.2, ⟨hk.1.2, hk.2⟩⟩⟩⟩⟩)), (zs0 HO376), (by (with_reducible repeat (first | apply Kd.R_alloc | apply Kd.R_drewN | apply Kd.R_drew)); exact Kd.R_mono HO379.out (fun _ hk => ⟨hk.1.1.1.1.1.2, ⟨hk.1.1.1.1.2, ⟨hk.1.1.1.2, ⟨hk.1.1.2, ⟨hk.1.2, hk.2⟩⟩⟩⟩⟩)), (by (with_reducible repeat (first | apply Kd.R_alloc | apply Kd.R_drewN | apply Kd.R_drew)); exact Kd.R_mono HO382.out (fun _ hk => ⟨hk.1.1.1.1.1.2, ⟨hk.1.1.1.1.2, ⟨hk.1.1.1.2, ⟨hk.1.1.2, ⟨hk.1.2, hk.2⟩⟩⟩⟩⟩)), (zk0 BK330), (zk0 BK331), (zk0 BK344), (zk0 BK348), (zk0 BK352), (zk0 BK357), (zk0 BK384), GW384.out, GE384.out, NB330_384.out, NB384_330.out, NB331_384.out, NB384_331.out, NB344_384.out, NB384_344.out, NB348_384.out, NB384_348.out, NB352_384.out, NB384_352.out, NB357_384.out, NB384_357.out, (zh0 HB)⟩)
                  ·skip
                   refine box_step ?hg (N := 19) ?hd (cs := #[.slice none 0 0]) (t := 32) ?hr ?_; (case hd => rfl); (case hg => rfl); (case hr => first | (go_simp; done) | (go_simp; rfl))
                   intro gb384 hg w124 hbox hb
                   have BK384 := Aside0.mk (hbox)
                   have GW384 := zge HB hg
                   have GE384 := zge HB hg
                   have NB330_384 := znl BK330 hg
                   have NB384_330 := znr BK330 hg
                   have NB331_384 := znl BK331 hg
                   have NB384_331 := znr BK331 hg
                   have NB344_384 := znl BK344 hg
                   have NB384_344 := znr BK344 hg
                   have NB348_384 := znl BK348 hg
                   have NB384_348 := znr BK348 hg
                   have NB352_384 := znl BK352 hg
                   have NB384_352 := znr BK352 hg
                   have NB357_384 := znl BK357 hg
                   have NB384_357 := znr BK357 hg
                   replace HO339 := zrb HO339 hb
                   replace HO342 := zrb HO342 hb
                   replace HO351 := zrb HO351 hb
                   replace HO355 := zrb HO355 hb
                   replace HO365 := zrb HO365 hb
                   replace HO376 := zsb HO376 hb
                   replace HO379 := zrb HO379 hb
                   replace BK330 := zb0 BK330 hb
                   replace BK331 := zb0 BK331 hb
                   replace BK344 := zb0 BK344 hb
                   replace BK348 := zb0 BK348 hb
                   replace BK352 := zb0 BK352 hb
                   replace BK357 := zb0 BK357 hb
                   replace HB := zhs HB hb
                   clear hb hbox hg
                   obtain ⟨Ao125, co125, eo125⟩ := Kd.S_slice HO376.out
                   (first | subst eo125 | (injection eo125 with f1_ f2_ f3_; have f4_ := f1_.symm; have f5_ := f3_.symm; clear f1_ f2_ f3_; subst f4_; subst f5_))
                   obtain ⟨Ao126, co126, eo126⟩ := Kd.R_slice HO379.out
                   (first | subst eo126 | (injection eo126 with f1_ f2_ f3_; have f4_ := f1_.symm; have f5_ := f3_.symm; clear f1_ f2_ f3_; subst f4_; subst f5_))
                   refine hK.out _ _ ⟨zc0 BK330 0 rfl, zc0 BK331 0 rfl⟩ (fun hHeld => ?_)
                   clear hK K
                   refine norm_ (a' := ?_) ?_ ?_
                   rotate_left
                   ·show Act.put _ (some 19) _ = _
                    simp only [Act.put, zp1, zp2, zp3, i64_w, i32_w]
                    rfl
                   refine one_ (i := 6) (N := some 109) #[zT, zT, zT, zT, zT, zT, zT, zF, zF, zF, zT, zF, zF] rfl rfl (one_of HT_.out (by kernel_rfl)) (by decide) (fun K hK => ?_)
                   refine goes_ Try.func30 (by kernel_rfl) rfl #[.agg #[.slice Ao125 t374.length co125], .agg #[.slice Ao126 t377.length co126], .int .i64 a2, .int .i64 a3] (by rfl) rfl rfl (by (try simp only [zq1, zq2, zq3]); first | done | rfl | (simp only [List.length_drop, List.length_take]; rfl)) ?_
                   with_reducible refine (impl_PartText.calls k _ _ t374 _ _ t377 a2 a3 t380 t383 _ ?side1 ?side2 ?side3 ?side4 A47.out).mono ?_
                   (case side1 => repeat (first | exact (Kd.S_reads' HO376.out).2.2 | (with_reducible refine Kd.C_alloc ?_ _) | (with_reducible refine Kd.C_drewN ?_ _) | (with_reducible refine Kd.C_drew ?_)))
                   (case side2 => exact (Kd.S_reads' HO376.out).2.1)
                   (case side3 => repeat (first | exact (Kd.R_reads' HO379.out).2.2 | (with_reducible refine Kd.C_alloc ?_ _) | (with_reducible refine Kd.C_drewN ?_ _) | (with_reducible refine Kd.C_drew ?_)))
                   (case side4 => exact (Kd.R_reads' HO379.out).2.1)
                   rintro e w127 ⟨v381, rfl, ho0, hb⟩
                   refine ⟨_, rfl, ?_⟩
                   have HO382 := Aside0.mk (Kd.R_lower (Kd.R_new' (Kd.R_new' (Kd.R_new' (Kd.R_new' (Kd.R_new' (Kd.R_new' ho0 (Kd.R_lt (zr0 HO339))) (Kd.R_lt (zr0 HO342))) (Kd.R_lt (zr0 HO351))) (Kd.R_lt (zr0 HO355))) (Kd.R_lt (zr0 HO365))) (Kd.R_lt (zr0 HO379))) (below_size (zh0 HB)))
                   replace HO339 := Aside0.mk (Kd.R_elder' (zr0 HO339) (Kd.R_base ho0) hb)
                   replace HO342 := Aside0.mk (Kd.R_elder' (zr0 HO342) (Kd.R_base ho0) hb)
                   replace HO351 := Aside0.mk (Kd.R_elder' (zr0 HO351) (Kd.R_base ho0) hb)
                   replace HO355 := Aside0.mk (Kd.R_elder' (zr0 HO355) (Kd.R_base ho0) hb)
                   replace HO365 := Aside0.mk (Kd.R_elder' (zr0 HO365) (Kd.R_base ho0) hb)
                   replace HO376 := zsb HO376 hb
                   replace HO379 := Aside0.mk (Kd.R_elder' (zr0 HO379) (Kd.R_base ho0) hb)
                   replace BK330 := zb0 BK330 hb
                   replace BK331 := zb0 BK331 hb
                   replace BK344 := zb0 BK344 hb
                   replace BK348 := zb0 BK348 hb
                   replace BK352 := zb0 BK352 hb
                   replace BK357 := zb0 BK357 hb
                   replace BK384 := zb0 BK384 hb
                   replace HB := zhs HB hb
                   (try clear hb)
                   (try clear hb2)
                   (try clear hk)
                   (try clear hi)
                   (try clear ho0)
                   refine hK.out _ _ ⟨zc0 BK330 0 rfl, zc0 BK331 0 rfl⟩ (fun hHeld => ?_)
                   clear hK K
                   refine norm_ (a' := ?_) ?_ ?_
                   rotate_left
                   ·show Act.put _ (some 109) _ = _
                    simp only [Act.put, zp1, zp2, zp3, i64_w, i32_w]
                    rfl
                   refine pure_ (i := 7) (N := some 102) (v := ?_) (a' := ?_) #[zT, zT, zT, zT, zT, zT, zT, zT, zF, zF, zT, zF, zF] rfl rfl (any_of HT_.out (by kernel_rfl)) (fun _ _ _ h => h) (Or.inl ⟨by rfl, ?_⟩) ?_ ?_
                   rotate_left
                   ·intro w'
                    go_simp
                    with_reducible rfl
                   rotate_left
                   ·simp only [Act.put, zp1, zp2, zp3, i64_w, i32_w]
                    rfl
                   refine pure_ (i := 8) (N := some 110) (v := ?_) (a' := ?_) #[zT, zT, zT, zT, zT, zT, zT, zT, zT, zF, zT, zF, zF] rfl rfl (any_of HT_.out (by kernel_rfl)) (fun _ _ _ h => h) (Or.inl ⟨by rfl, ?_⟩) ?_ ?_
                   rotate_left
                   ·intro w'
                    go_simp
                    with_reducible rfl
                   rotate_left
                   ·simp only [Act.put, zp1, zp2, zp3, i64_w, i32_w]
                    rfl
                   refine pure_ (i := 9) (N := some 111) (v := ?_) (a' := ?_) #[zT, zT, zT, zT, zT, zT, zT, zT, zT, zT, zT, zF, zF] rfl rfl (any_of HT_.out (by kernel_rfl)) (fun _ _ _ h => h) (Or.inl ⟨by rfl, ?_⟩) ?_ ?_
                   rotate_left
                   ·intro w'
                    go_simp
                    with_reducible rfl
                   rotate_left
                   ·simp only [Act.put, zp1, zp2, zp3, i64_w, i32_w]
                    rfl
                   exact norm_ (by simp only [putAll, Act.put, zp1, zp2, zp3]) (hCont (.slice Ao125 t374.length co125, .slice Ao126 t377.length co126, v381, gb384) _ ⟨hHeld, (by (with_reducible repeat (first | apply Kd.R_alloc | apply Kd.R_drewN | apply Kd.R_drew)); exact Kd.R_mono HO339.out (fun _ hk => ⟨hk.1.1.1, ⟨hk.1.1.2.1, ⟨hk.1.1.2.2.1, ⟨hk.1.1.2.2.2, ⟨hk.1.2, hk.2⟩⟩⟩⟩⟩)), (by (with_reducible repeat (first | apply Kd.R_alloc | apply Kd.R_drewN | apply Kd.R_drew)); exact Kd.R_mono HO342.out (fun _ hk => ⟨hk.1.1.1, ⟨hk.1.1.2.1, ⟨hk.1.1.2.2.1, ⟨hk.1.1.2.2.2, ⟨hk.1.2, hk.2⟩⟩⟩⟩⟩)), (by (with_reducible repeat (first | apply Kd.R_alloc | apply Kd.R_drewN | apply Kd.R_drew)); exact Kd.R_mono HO351.out (fun _ hk => ⟨hk.1.1.1, ⟨hk.1.1.2.1, ⟨hk.1.1.2.2.1, ⟨hk.1.1.2.2.2, ⟨hk.1.2, hk.2⟩⟩⟩⟩⟩)), (by (with_reducible repeat (first | apply Kd.R_alloc | apply Kd.R_drewN | apply Kd.R_drew)); exact Kd.R_mono HO355.out (fun _ hk => ⟨hk.1.1.1, ⟨hk.1.1.2.1, ⟨hk.1.1.2.2.1, ⟨hk.1.1.2.2.2, ⟨hk.1.2, hk.2⟩⟩⟩⟩⟩)), (by (with_reducible repeat (first | apply Kd.R_alloc | apply Kd.R_drewN | apply Kd.R_drew)); exact Kd.R_mono HO365.out (fun _ hk => ⟨hk.1.1.1, ⟨hk.1.1.2.1, ⟨hk.1.1.2.2.1, ⟨hk.1.1.2.2.2, ⟨hk.1.2, hk.2⟩⟩⟩⟩⟩)), (zs0 HO376), (by (with_reducible repeat (first | apply Kd.R_alloc | apply Kd.R_drewN | apply Kd.R_drew)); exact Kd.R_mono HO379.out (fun _ hk => ⟨hk.1.1.1.1.1.2, ⟨hk.1.1.1.1.2, ⟨hk.1.1.1.2, ⟨hk.1.1.2, ⟨hk.1.2, hk.2⟩⟩⟩⟩⟩)), (by (with_reducible repeat (first | apply Kd.R_alloc | apply Kd.R_drewN | apply Kd.R_drew)); exact Kd.R_mono HO382.out (fun _ hk => ⟨hk.1.1.1.1.1.2, ⟨hk.1.1.1.1.2, ⟨hk.1.1.1.2, ⟨hk.1.1.2, ⟨hk.1.2, hk.2⟩⟩⟩⟩⟩)), (zk0 BK330), (zk0 BK331), (zk0 BK344), (zk0 BK348), (zk0 BK352), (zk0 BK357), (zk0 BK384), GW384.out, GE384.out, NB330_384.out, NB384_330.out, NB331_384.out, NB384_331.out, NB344_384.out, NB384_344.out, NB348_384.out, NB384_348.out, NB352_384.out, NB384_352.out, NB357_384.out, NB384_357.out, (zh0 HB)⟩)
                 ·skip
                  refine box_step ?hg (N := 19) ?hd (cs := #[.slice none 0 0]) (t := 32) ?hr ?_; (case hd => rfl); (case hg => rfl); (case hr => first | (go_simp; done) | (go_simp; rfl))
                  intro gb384 hg w123 hbox hb
                  have BK384 := Aside0.mk (hbox)
                  have GW384 := zge HB hg
                  have GE384 := zge HB hg
                  have NB330_384 := znl BK330 hg
                  have NB384_330 := znr BK330 hg
                  have NB331_384 := znl BK331 hg
                  have NB384_331 := znr BK331 hg
                  have NB344_384 := znl BK344 hg
                  have NB384_344 := znr BK344 hg
                  have NB348_384 := znl BK348 hg
                  have NB384_348 := znr BK348 hg
                  have NB352_384 := znl BK352 hg
                  have NB384_352 := znr BK352 hg
                  have NB357_384 := znl BK357 hg
                  have NB384_357 := znr BK357 hg
                  replace HO339 := zrb HO339 hb
                  replace HO342 := zrb HO342 hb
                  replace HO351 := zrb HO351 hb
                  replace HO355 := zrb HO355 hb
                  replace HO365 := zrb HO365 hb
                  replace HO376 := zsb HO376 hb
                  replace BK330 := zb0 BK330 hb
                  replace BK331 := zb0 BK331 hb
                  replace BK344 := zb0 BK344 hb
                  replace BK348 := zb0 BK348 hb
                  replace BK352 := zb0 BK352 hb
                  replace BK357 := zb0 BK357 hb
                  replace HB := zhs HB hb
                  clear hb hbox hg
                  refine hK.out _ _ ⟨zc0 BK330 0 rfl, zc0 BK331 0 rfl⟩ (fun hHeld => ?_)
                  clear hK K
                  refine norm_ (a' := ?_) ?_ ?_
                  rotate_left
                  ·show Act.put _ (some 19) _ = _
                   simp only [Act.put, zp1, zp2, zp3, i64_w, i32_w]
                   rfl
                  refine one_ (i := 3) (N := some 106) #[zT, zT, zT, zT, zT, zT, zF, zF, zF, zF, zT, zF, zF] rfl rfl (one_of HT_.out (by kernel_rfl)) (by decide) (fun K hK => ?_)
                  refine goes_ Try.func18 (by kernel_rfl) rfl #[.agg #[.slice A1_0 l1_0.length c1_0]] (by rfl) rfl rfl (by (try simp only [zq1, zq2, zq3]); first | done | rfl | (simp only [List.length_drop, List.length_take]; rfl)) ?_
                  with_reducible refine (laws_toRope.calls k _ _ l1_0 t377 _ ?side1 ?side2 A46.out).mono ?_
                  (case side1 => exact Kd.C_below HR1_0.out (zh0 HB))
                  (case side2 => exact HC1_0.out)
                  rintro e w124 ⟨v378, rfl, ho0, hb⟩
                  refine ⟨_, rfl, ?_⟩
                  have HO379 := Aside0.mk (Kd.R_lower (Kd.R_new' (Kd.R_new' (Kd.R_new' (Kd.R_new' (Kd.R_new' ho0 (Kd.R_lt (zr0 HO339))) (Kd.R_lt (zr0 HO342))) (Kd.R_lt (zr0 HO351))) (Kd.R_lt (zr0 HO355))) (Kd.R_lt (zr0 HO365))) (below_size (zh0 HB)))
                  replace HO339 := Aside0.mk (Kd.R_elder' (zr0 HO339) (Kd.R_base ho0) hb)
                  replace HO342 := Aside0.mk (Kd.R_elder' (zr0 HO342) (Kd.R_base ho0) hb)
                  replace HO351 := Aside0.mk (Kd.R_elder' (zr0 HO351) (Kd.R_base ho0) hb)
                  replace HO355 := Aside0.mk (Kd.R_elder' (zr0 HO355) (Kd.R_base ho0) hb)
                  replace HO365 := Aside0.mk (Kd.R_elder' (zr0 HO365) (Kd.R_base ho0) hb)
                  replace HO376 := zsb HO376 hb
                  replace BK330 := zb0 BK330 hb
                  replace BK331 := zb0 BK331 hb
                  replace BK344 := zb0 BK344 hb
                  replace BK348 := zb0 BK348 hb
                  replace BK352 := zb0 BK352 hb
                  replace BK357 := zb0 BK357 hb
                  replace BK384 := zb0 BK384 hb
                  replace HB := zhs HB hb
                  (try clear hb)
                  (try clear hb2)
                  (try clear hk)
                  (try clear hi)
                  (try clear ho0)
                  obtain ⟨Ao125, co125, eo125⟩ := Kd.S_slice HO376.out
                  (first | subst eo125 | (injection eo125 with f1_ f2_ f3_; have f4_ := f1_.symm; have f5_ := f3_.symm; clear f1_ f2_ f3_; subst f4_; subst f5_))
                  obtain ⟨Ao126, co126, eo126⟩ := Kd.R_slice HO379.out
                  (first | subst eo126 | (injection eo126 with f1_ f2_ f3_; have f4_ := f1_.symm; have f5_ := f3_.symm; clear f1_ f2_ f3_; subst f4_; subst f5_))
                  refine hK.out _ _ ⟨zc0 BK330 0 rfl, zc0 BK331 0 rfl⟩ (fun hHeld => ?_)
                  clear hK K
                  refine norm_ (a' := ?_) ?_ ?_
                  rotate_left
                  ·show Act.put _ (some 106) _ = _
                   simp only [Act.put, zp1, zp2, zp3, i64_w, i32_w]
                   rfl
                  refine one_ (i := 6) (N := some 109) #[zT, zT, zT, zT, zT, zT, zT, zF, zF, zF, zT, zF, zF] rfl rfl (one_of HT_.out (by kernel_rfl)) (by decide) (fun K hK => ?_)
                  refine goes_ Try.func30 (by kernel_rfl) rfl #[.agg #[.slice Ao125 t374.length co125], .agg #[.slice Ao126 t377.length co126], .int .i64 a2, .int .i64 a3] (by rfl) rfl rfl (by (try simp only [zq1, zq2, zq3]); first | done | rfl | (simp only [List.length_drop, List.length_take]; rfl)) ?_
                  with_reducible refine (impl_PartText.calls k _ _ t374 _ _ t377 a2 a3 t380 t383 _ ?side1 ?side2 ?side3 ?side4 A47.out).mono ?_
                  (case side1 => repeat (first | exact (Kd.S_reads' HO376.out).2.2 | (with_reducible refine Kd.C_alloc ?_ _) | (with_reducible refine Kd.C_drewN ?_ _) | (with_reducible refine Kd.C_drew ?_)))
                  (case side2 => exact (Kd.S_reads' HO376.out).2.1)
                  (case side3 => repeat (first | exact (Kd.R_reads' HO379.out).2.2 | (with_reducible refine Kd.C_alloc ?_ _) | (with_reducible refine Kd.C_drewN ?_ _) | (with_reducible refine Kd.C_drew ?_)))
                  (case side4 => exact (Kd.R_reads' HO379.out).2.1)
                  rintro e w127 ⟨v381, rfl, ho0, hb⟩
                  refine ⟨_, rfl, ?_⟩
                  have HO382 := Aside0.mk (Kd.R_lower (Kd.R_new' (Kd.R_new' (Kd.R_new' (Kd.R_new' (Kd.R_new' (Kd.R_new' ho0 (Kd.R_lt (zr0 HO339))) (Kd.R_lt (zr0 HO342))) (Kd.R_lt (zr0 HO351))) (Kd.R_lt (zr0 HO355))) (Kd.R_lt (zr0 HO365))) (Kd.R_lt (zr0 HO379))) (below_size (zh0 HB)))
                  replace HO339 := Aside0.mk (Kd.R_elder' (zr0 HO339) (Kd.R_base ho0) hb)
                  replace HO342 := Aside0.mk (Kd.R_elder' (zr0 HO342) (Kd.R_base ho0) hb)
                  replace HO351 := Aside0.mk (Kd.R_elder' (zr0 HO351) (Kd.R_base ho0) hb)
                  replace HO355 := Aside0.mk (Kd.R_elder' (zr0 HO355) (Kd.R_base ho0) hb)
                  replace HO365 := Aside0.mk (Kd.R_elder' (zr0 HO365) (Kd.R_base ho0) hb)
                  replace HO376 := zsb HO376 hb
                  replace HO379 := Aside0.mk (Kd.R_elder' (zr0 HO379) (Kd.R_base ho0) hb)
                  replace BK330 := zb0 BK330 hb
                  replace BK331 := zb0 BK331 hb
                  replace BK344 := zb0 BK344 hb
                  replace BK348 := zb0 BK348 hb
                  replace BK352 := zb0 BK352 hb
                  replace BK357 := zb0 BK357 hb
                  replace BK384 := zb0 BK384 hb
                  replace HB := zhs HB hb
                  (try clear hb)
                  (try clear hb2)
                  (try clear hk)
                  (try clear hi)
                  (try clear ho0)
                  refine hK.out _ _ ⟨zc0 BK330 0 rfl, zc0 BK331 0 rfl⟩ (fun hHeld => ?_)
                  clear hK K
                  refine norm_ (a' := ?_) ?_ ?_
                  rotate_left
                  ·show Act.put _ (some 109) _ = _
                   simp only [Act.put, zp1, zp2, zp3, i64_w, i32_w]
                   rfl
                  refine pure_ (i := 7) (N := some 102) (v := ?_) (a' := ?_) #[zT, zT, zT, zT, zT, zT, zT, zT, zF, zF, zT, zF, zF] rfl rfl (any_of HT_.out (by kernel_rfl)) (fun _ _ _ h => h) (Or.inl ⟨by rfl, ?_⟩) ?_ ?_
                  rotate_left
                  ·intro w'
                   go_simp
                   with_reducible rfl
                  rotate_left
                  ·simp only [Act.put, zp1, zp2, zp3, i64_w, i32_w]
                   rfl
                  refine pure_ (i := 8) (N := some 110) (v := ?_) (a' := ?_) #[zT, zT, zT, zT, zT, zT, zT, zT, zT, zF, zT, zF, zF] rfl rfl (any_of HT_.out (by kernel_rfl)) (fun _ _ _ h => h) (Or.inl ⟨by rfl, ?_⟩) ?_ ?_
                  rotate_left
                  ·intro w'
                   go_simp
                   with_reducible rfl
                  rotate_left
                  ·simp only [Act.put, zp1, zp2, zp3, i64_w, i32_w]
                   rfl
                  refine pure_ (i := 9) (N := some 111) (v := ?_) (a' := ?_) #[zT, zT, zT, zT, zT, zT, zT, zT, zT, zT, zT, zF, zF] rfl rfl (any_of HT_.out (by kernel_rfl)) (fun _ _ _ h => h) (Or.inl ⟨by rfl, ?_⟩) ?_ ?_
                  rotate_left
                  ·intro w'
                   go_simp
                   with_reducible rfl
                  rotate_left
                  ·simp only [Act.put, zp1, zp2, zp3, i64_w, i32_w]
                   rfl
                  exact norm_ (by simp only [putAll, Act.put, zp1, zp2, zp3]) (hCont (.slice Ao125 t374.length co125, .slice Ao126 t377.length co126, v381, gb384) _ ⟨hHeld, (by (with_reducible repeat (first | apply Kd.R_alloc | apply Kd.R_drewN | apply Kd.R_drew)); exact Kd.R_mono HO339.out (fun _ hk => ⟨hk.1.1.1, ⟨hk.1.1.2.1, ⟨hk.1.1.2.2.1, ⟨hk.1.1.2.2.2, ⟨hk.1.2, hk.2⟩⟩⟩⟩⟩)), (by (with_reducible repeat (first | apply Kd.R_alloc | apply Kd.R_drewN | apply Kd.R_drew)); exact Kd.R_mono HO342.out (fun _ hk => ⟨hk.1.1.1, ⟨hk.1.1.2.1, ⟨hk.1.1.2.2.1, ⟨hk.1.1.2.2.2, ⟨hk.1.2, hk.2⟩⟩⟩⟩⟩)), (by (with_reducible repeat (first | apply Kd.R_alloc | apply Kd.R_drewN | apply Kd.R_drew)); exact Kd.R_mono HO351.out (fun _ hk => ⟨hk.1.1.1, ⟨hk.1.1.2.1, ⟨hk.1.1.2.2.1, ⟨hk.1.1.2.2.2, ⟨hk.1.2, hk.2⟩⟩⟩⟩⟩)), (by (with_reducible repeat (first | apply Kd.R_alloc | apply Kd.R_drewN | apply Kd.R_drew)); exact Kd.R_mono HO355.out (fun _ hk => ⟨hk.1.1.1, ⟨hk.1.1.2.1, ⟨hk.1.1.2.2.1, ⟨hk.1.1.2.2.2, ⟨hk.1.2, hk.2⟩⟩⟩⟩⟩)), (by (with_reducible repeat (first | apply Kd.R_alloc | apply Kd.R_drewN | apply Kd.R_drew)); exact Kd.R_mono HO365.out (fun _ hk => ⟨hk.1.1.1, ⟨hk.1.1.2.1, ⟨hk.1.1.2.2.1, ⟨hk.1.1.2.2.2, ⟨hk.1.2, hk.2⟩⟩⟩⟩⟩)), (zs0 HO376), (by (with_reducible repeat (first | apply Kd.R_alloc | apply Kd.R_drewN | apply Kd.R_drew)); exact Kd.R_mono HO379.out (fun _ hk => ⟨hk.1.1.1.1.1.2, ⟨hk.1.1.1.1.2, ⟨hk.1.1.1.2, ⟨hk.1.1.2, ⟨hk.1.2, hk.2⟩⟩⟩⟩⟩)), (by (with_reducible repeat (first | apply Kd.R_alloc | apply Kd.R_drewN | apply Kd.R_drew)); exact Kd.R_mono HO382.out (fun _ hk => ⟨hk.1.1.1.1.1.2, ⟨hk.1.1.1.1.2, ⟨hk.1.1.1.2, ⟨hk.1.1.2, ⟨hk.1.2, hk.2⟩⟩⟩⟩⟩)), (zk0 BK330), (zk0 BK331), (zk0 BK344), (zk0 BK348), (zk0 BK352), (zk0 BK357), (zk0 BK384), GW384.out, GE384.out, NB330_384.out, NB384_330.out, NB331_384.out, NB384_331.out, NB344_384.out, NB384_344.out, NB348_384.out, NB384_348.out, NB352_384.out, NB384_352.out, NB357_384.out, NB384_357.out, (zh0 HB)⟩)
                ·skip
                 refine box_step ?hg (N := 19) ?hd (cs := #[.slice none 0 0]) (t := 32) ?hr ?_; (case hd => rfl); (case hg => rfl); (case hr => first | (go_simp; done) | (go_simp; rfl))
                 intro gb384 hg w122 hbox hb
                 have BK384 := Aside0.mk (hbox)
                 have GW384 := zge HB hg
                 have GE384 := zge HB hg
                 have NB330_384 := znl BK330 hg
                 have NB384_330 := znr BK330 hg
                 have NB331_384 := znl BK331 hg
                 have NB384_331 := znr BK331 hg
                 have NB344_384 := znl BK344 hg
                 have NB384_344 := znr BK344 hg
                 have NB348_384 := znl BK348 hg
                 have NB384_348 := znr BK348 hg
                 have NB352_384 := znl BK352 hg
                 have NB384_352 := znr BK352 hg
                 have NB357_384 := znl BK357 hg
                 have NB384_357 := znr BK357 hg
                 replace HO339 := zrb HO339 hb
                 replace HO342 := zrb HO342 hb
                 replace HO351 := zrb HO351 hb
                 replace HO355 := zrb HO355 hb
                 replace HO365 := zrb HO365 hb
                 replace BK330 := zb0 BK330 hb
                 replace BK331 := zb0 BK331 hb
                 replace BK344 := zb0 BK344 hb
                 replace BK348 := zb0 BK348 hb
                 replace BK352 := zb0 BK352 hb
                 replace BK357 := zb0 BK357 hb
                 replace HB := zhs HB hb
                 clear hb hbox hg
                 refine hK.out _ _ ⟨zc0 BK330 0 rfl, zc0 BK331 0 rfl⟩ (fun hHeld => ?_)
                 clear hK K
                 refine norm_ (a' := ?_) ?_ ?_
                 rotate_left
                 ·show Act.put _ (some 19) _ = _
                  simp only [Act.put, zp1, zp2, zp3, i64_w, i32_w]
                  rfl
                 refine one_ (i := 1) (N := some 104) #[zT, zT, zT, zF, zT, zT, zF, zF, zF, zF, zT, zF, zF] rfl rfl (one_of HT_.out (by kernel_rfl)) (by decide) (fun K hK => ?_)
                 refine goes_ Try.func17 (by kernel_rfl) rfl #[.agg #[.slice A0_0 l0_0.length c0_0]] (by rfl) rfl rfl (by (try simp only [zq1, zq2, zq3]); first | done | rfl | (simp only [List.length_drop, List.length_take]; rfl)) ?_
                 with_reducible refine (laws_toMemory.calls k _ _ l0_0 t374 _ ?side1 ?side2 A45.out).mono ?_
                 (case side1 => exact Kd.C_below HR0_0.out (zh0 HB))
                 (case side2 => exact HC0_0.out)
                 rintro e w123 ⟨v375, rfl, ho0, hb⟩
                 refine ⟨_, rfl, ?_⟩
                 have HO376 := Aside0.mk (Kd.S_lower ho0 (below_size (zh0 HB)))
                 replace HO339 := zrb HO339 hb
                 replace HO342 := zrb HO342 hb
                 replace HO351 := zrb HO351 hb
                 replace HO355 := zrb HO355 hb
                 replace HO365 := zrb HO365 hb
                 replace BK330 := zb0 BK330 hb
                 replace BK331 := zb0 BK331 hb
                 replace BK344 := zb0 BK344 hb
                 replace BK348 := zb0 BK348 hb
                 replace BK352 := zb0 BK352 hb
                 replace BK357 := zb0 BK357 hb
                 replace BK384 := zb0 BK384 hb
                 replace HB := zhs HB hb
                 (try clear hb)
                 (try clear hb2)
                 (try clear hk)
                 (try clear hi)
                 (try clear ho0)
                 refine hK.out _ _ ⟨zc0 BK330 0 rfl, zc0 BK331 0 rfl⟩ (fun hHeld => ?_)
                 clear hK K
                 refine norm_ (a' := ?_) ?_ ?_
                 rotate_left
                 ·show Act.put _ (some 104) _ = _
                  simp only [Act.put, zp1, zp2, zp3, i64_w, i32_w]
                  rfl
                 refine one_ (i := 3) (N := some 106) #[zT, zT, zT, zT, zT, zT, zF, zF, zF, zF, zT, zF, zF] rfl rfl (one_of HT_.out (by kernel_rfl)) (by decide) (fun K hK => ?_)
                 refine goes_ Try.func18 (by kernel_rfl) rfl #[.agg #[.slice A1_0 l1_0.length c1_0]] (by rfl) rfl rfl (by (try simp only [zq1, zq2, zq3]); first | done | rfl | (simp only [List.length_drop, List.length_take]; rfl)) ?_
                 with_reducible refine (laws_toRope.calls k _ _ l1_0 t377 _ ?side1 ?side2 A46.out).mono ?_
                 (case side1 => exact Kd.C_below HR1_0.out (zh0 HB))
                 (case side2 => exact HC1_0.out)
                 rintro e w124 ⟨v378, rfl, ho0, hb⟩
                 refine ⟨_, rfl, ?_⟩
                 have HO379 := Aside0.mk (Kd.R_lower (Kd.R_new' (Kd.R_new' (Kd.R_new' (Kd.R_new' (Kd.R_new' ho0 (Kd.R_lt (zr0 HO339))) (Kd.R_lt (zr0 HO342))) (Kd.R_lt (zr0 HO351))) (Kd.R_lt (zr0 HO355))) (Kd.R_lt (zr0 HO365))) (below_size (zh0 HB)))
                 replace HO339 := Aside0.mk (Kd.R_elder' (zr0 HO339) (Kd.R_base ho0) hb)
                 replace HO342 := Aside0.mk (Kd.R_elder' (zr0 HO342) (Kd.R_base ho0) hb)
                 replace HO351 := Aside0.mk (Kd.R_elder' (zr0 HO351) (Kd.R_base ho0) hb)
                 replace HO355 := Aside0.mk (Kd.R_elder' (zr0 HO355) (Kd.R_base ho0) hb)
                 replace HO365 := Aside0.mk (Kd.R_elder' (zr0 HO365) (Kd.R_base ho0) hb)
                 replace HO376 := zsb HO376 hb
                 replace BK330 := zb0 BK330 hb
                 replace BK331 := zb0 BK331 hb
                 replace BK344 := zb0 BK344 hb
                 replace BK348 := zb0 BK348 hb
                 replace BK352 := zb0 BK352 hb
                 replace BK357 := zb0 BK357 hb
                 replace BK384 := zb0 BK384 hb
                 replace HB := zhs HB hb
                 (try clear hb)
                 (try clear hb2)
                 (try clear hk)
                 (try clear hi)
                 (try clear ho0)
                 obtain ⟨Ao125, co125, eo125⟩ := Kd.S_slice HO376.out
                 (first | subst eo125 | (injection eo125 with f1_ f2_ f3_; have f4_ := f1_.symm; have f5_ := f3_.symm; clear f1_ f2_ f3_; subst f4_; subst f5_))
                 obtain ⟨Ao126, co126, eo126⟩ := Kd.R_slice HO379.out
                 (first | subst eo126 | (injection eo126 with f1_ f2_ f3_; have f4_ := f1_.symm; have f5_ := f3_.symm; clear f1_ f2_ f3_; subst f4_; subst f5_))
                 refine hK.out _ _ ⟨zc0 BK330 0 rfl, zc0 BK331 0 rfl⟩ (fun hHeld => ?_)
                 clear hK K
                 refine norm_ (a' := ?_) ?_ ?_
                 rotate_left
                 ·show Act.put _ (some 106) _ = _
                  simp only [Act.put, zp1, zp2, zp3, i64_w, i32_w]
                  rfl
                 refine one_ (i := 6) (N := some 109) #[zT, zT, zT, zT, zT, zT, zT, zF, zF, zF, zT, zF, zF] rfl rfl (one_of HT_.out (by kernel_rfl)) (by decide) (fun K hK => ?_)
                 refine goes_ Try.func30 (by kernel_rfl) rfl #[.agg #[.slice Ao125 t374.length co125], .agg #[.slice Ao126 t377.length co126], .int .i64 a2, .int .i64 a3] (by rfl) rfl rfl (by (try simp only [zq1, zq2, zq3]); first | done | rfl | (simp only [List.length_drop, List.length_take]; rfl)) ?_
                 with_reducible refine (impl_PartText.calls k _ _ t374 _ _ t377 a2 a3 t380 t383 _ ?side1 ?side2 ?side3 ?side4 A47.out).mono ?_
                 (case side1 => repeat (first | exact (Kd.S_reads' HO376.out).2.2 | (with_reducible refine Kd.C_alloc ?_ _) | (with_reducible refine Kd.C_drewN ?_ _) | (with_reducible refine Kd.C_drew ?_)))
                 (case side2 => exact (Kd.S_reads' HO376.out).2.1)
                 (case side3 => repeat (first | exact (Kd.R_reads' HO379.out).2.2 | (with_reducible refine Kd.C_alloc ?_ _) | (with_reducible refine Kd.C_drewN ?_ _) | (with_reducible refine Kd.C_drew ?_)))
                 (case side4 => exact (Kd.R_reads' HO379.out).2.1)
                 rintro e w127 ⟨v381, rfl, ho0, hb⟩
                 refine ⟨_, rfl, ?_⟩
                 have HO382 := Aside0.mk (Kd.R_lower (Kd.R_new' (Kd.R_new' (Kd.R_new' (Kd.R_new' (Kd.R_new' (Kd.R_new' ho0 (Kd.R_lt (zr0 HO339))) (Kd.R_lt (zr0 HO342))) (Kd.R_lt (zr0 HO351))) (Kd.R_lt (zr0 HO355))) (Kd.R_lt (zr0 HO365))) (Kd.R_lt (zr0 HO379))) (below_size (zh0 HB)))
                 replace HO339 := Aside0.mk (Kd.R_elder' (zr0 HO339) (Kd.R_base ho0) hb)
                 replace HO342 := Aside0.mk (Kd.R_elder' (zr0 HO342) (Kd.R_base ho0) hb)
                 replace HO351 := Aside0.mk (Kd.R_elder' (zr0 HO351) (Kd.R_base ho0) hb)
                 replace HO355 := Aside0.mk (Kd.R_elder' (zr0 HO355) (Kd.R_base ho0) hb)
                 replace HO365 := Aside0.mk (Kd.R_elder' (zr0 HO365) (Kd.R_base ho0) hb)
                 replace HO376 := zsb HO376 hb
                 replace HO379 := Aside0.mk (Kd.R_elder' (zr0 HO379) (Kd.R_base ho0) hb)
                 replace BK330 := zb0 BK330 hb
                 replace BK331 := zb0 BK331 hb
                 replace BK344 := zb0 BK344 hb
                 replace BK348 := zb0 BK348 hb
                 replace BK352 := zb0 BK352 hb
                 replace BK357 := zb0 BK357 hb
                 replace BK384 := zb0 BK384 hb
                 replace HB := zhs HB hb
                 (try clear hb)
                 (try clear hb2)
                 (try clear hk)
                 (try clear hi)
                 (try clear ho0)
                 refine hK.out _ _ ⟨zc0 BK330 0 rfl, zc0 BK331 0 rfl⟩ (fun hHeld => ?_)
                 clear hK K
                 refine norm_ (a' := ?_) ?_ ?_
                 rotate_left
                 ·show Act.put _ (some 109) _ = _
                  simp only [Act.put, zp1, zp2, zp3, i64_w, i32_w]
                  rfl
                 refine pure_ (i := 7) (N := some 102) (v := ?_) (a' := ?_) #[zT, zT, zT, zT, zT, zT, zT, zT, zF, zF, zT, zF, zF] rfl rfl (any_of HT_.out (by kernel_rfl)) (fun _ _ _ h => h) (Or.inl ⟨by rfl, ?_⟩) ?_ ?_
                 rotate_left
                 ·intro w'
                  go_simp
                  with_reducible rfl
                 rotate_left
                 ·simp only [Act.put, zp1, zp2, zp3, i64_w, i32_w]
                  rfl
                 refine pure_ (i := 8) (N := some 110) (v := ?_) (a' := ?_) #[zT, zT, zT, zT, zT, zT, zT, zT, zT, zF, zT, zF, zF] rfl rfl (any_of HT_.out (by kernel_rfl)) (fun _ _ _ h => h) (Or.inl ⟨by rfl, ?_⟩) ?_ ?_
                 rotate_left
                 ·intro w'
                  go_simp
                  with_reducible rfl
                 rotate_left
                 ·simp only [Act.put, zp1, zp2, zp3, i64_w, i32_w]
                  rfl
                 refine pure_ (i := 9) (N := some 111) (v := ?_) (a' := ?_) #[zT, zT, zT, zT, zT, zT, zT, zT, zT, zT, zT, zF, zF] rfl rfl (any_of HT_.out (by kernel_rfl)) (fun _ _ _ h => h) (Or.inl ⟨by rfl, ?_⟩) ?_ ?_
                 rotate_left
                 ·intro w'
                  go_simp
                  with_reducible rfl
                 rotate_left
                 ·simp only [Act.put, zp1, zp2, zp3, i64_w, i32_w]
                  rfl
                 exact norm_ (by simp only [putAll, Act.put, zp1, zp2, zp3]) (hCont (.slice Ao125 t374.length co125, .slice Ao126 t377.length co126, v381, gb384) _ ⟨hHeld, (by (with_reducible repeat (first | apply Kd.R_alloc | apply Kd.R_drewN | apply Kd.R_drew)); exact Kd.R_mono HO339.out (fun _ hk => ⟨hk.1.1.1, ⟨hk.1.1.2.1, ⟨hk.1.1.2.2.1, ⟨hk.1.1.2.2.2, ⟨hk.1.2, hk.2⟩⟩⟩⟩⟩)), (by (with_reducible repeat (first | apply Kd.R_alloc | apply Kd.R_drewN | apply Kd.R_drew)); exact Kd.R_mono HO342.out (fun _ hk => ⟨hk.1.1.1, ⟨hk.1.1.2.1, ⟨hk.1.1.2.2.1, ⟨hk.1.1.2.2.2, ⟨hk.1.2, hk.2⟩⟩⟩⟩⟩)), (by (with_reducible repeat (first | apply Kd.R_alloc | apply Kd.R_drewN | apply Kd.R_drew)); exact Kd.R_mono HO351.out (fun _ hk => ⟨hk.1.1.1, ⟨hk.1.1.2.1, ⟨hk.1.1.2.2.1, ⟨hk.1.1.2.2.2, ⟨hk.1.2, hk.2⟩⟩⟩⟩⟩)), (by (with_reducible repeat (first | apply Kd.R_alloc | apply Kd.R_drewN | apply Kd.R_drew)); exact Kd.R_mono HO355.out (fun _ hk => ⟨hk.1.1.1, ⟨hk.1.1.2.1, ⟨hk.1.1.2.2.1, ⟨hk.1.1.2.2.2, ⟨hk.1.2, hk.2⟩⟩⟩⟩⟩)), (by (with_reducible repeat (first | apply Kd.R_alloc | apply Kd.R_drewN | apply Kd.R_drew)); exact Kd.R_mono HO365.out (fun _ hk => ⟨hk.1.1.1, ⟨hk.1.1.2.1, ⟨hk.1.1.2.2.1, ⟨hk.1.1.2.2.2, ⟨hk.1.2, hk.2⟩⟩⟩⟩⟩)), (zs0 HO376), (by (with_reducible repeat (first | apply Kd.R_alloc | apply Kd.R_drewN | apply Kd.R_drew)); exact Kd.R_mono HO379.out (fun _ hk => ⟨hk.1.1.1.1.1.2, ⟨hk.1.1.1.1.2, ⟨hk.1.1.1.2, ⟨hk.1.1.2, ⟨hk.1.2, hk.2⟩⟩⟩⟩⟩)), (by (with_reducible repeat (first | apply Kd.R_alloc | apply Kd.R_drewN | apply Kd.R_drew)); exact Kd.R_mono HO382.out (fun _ hk => ⟨hk.1.1.1.1.1.2, ⟨hk.1.1.1.1.2, ⟨hk.1.1.1.2, ⟨hk.1.1.2, ⟨hk.1.2, hk.2⟩⟩⟩⟩⟩)), (zk0 BK330), (zk0 BK331), (zk0 BK344), (zk0 BK348), (zk0 BK352), (zk0 BK357), (zk0 BK384), GW384.out, GE384.out, NB330_384.out, NB384_330.out, NB331_384.out, NB384_331.out, NB344_384.out, NB384_344.out, NB348_384.out, NB384_348.out, NB352_384.out, NB384_352.out, NB357_384.out, NB384_357.out, (zh0 HB)⟩)
               rintro ⟨v375, v378, v381, gb384⟩ w128 ⟨hS_, h0_, h1_, h2_, h3_, h4_, h5_, h6_, h7_, h8_, h9_, h10_, h11_, h12_, h13_, h14_, h15_, h16_, h17_, h18_, h19_, h20_, h21_, h22_, h23_, h24_, h25_, h26_, h27_, h28_, h29_⟩
               try dsimp only at hS_ h0_ h1_ h2_ h3_ h4_ h5_ h6_ h7_ h8_ h9_ h10_ h11_ h12_ h13_ h14_ h15_ h16_ h17_ h18_ h19_ h20_ h21_ h22_ h23_ h24_ h25_ h26_ h27_ h28_ h29_
               have HO376 := Aside0.mk h5_
               have HO379 := Aside0.mk h6_
               have HO382 := Aside0.mk h7_
               have BK384 := Aside0.mk h14_
               have GW384 := Aside0.mk h15_
               have GE384 := Aside0.mk h16_
               have NB330_384 := Aside0.mk h17_
               have NB384_330 := Aside0.mk h18_
               have NB331_384 := Aside0.mk h19_
               have NB384_331 := Aside0.mk h20_
               have NB344_384 := Aside0.mk h21_
               have NB384_344 := Aside0.mk h22_
               have NB348_384 := Aside0.mk h23_
               have NB384_348 := Aside0.mk h24_
               have NB352_384 := Aside0.mk h25_
               have NB384_352 := Aside0.mk h26_
               have NB357_384 := Aside0.mk h27_
               have NB384_357 := Aside0.mk h28_
               replace HO339 := Aside0.mk h0_
               replace HO342 := Aside0.mk h1_
               replace HO351 := Aside0.mk h2_
               replace HO355 := Aside0.mk h3_
               replace HO365 := Aside0.mk h4_
               replace BK330 := Aside0.mk h8_
               replace BK331 := Aside0.mk h9_
               replace BK344 := Aside0.mk h10_
               replace BK348 := Aside0.mk h11_
               replace BK352 := Aside0.mk h12_
               replace BK357 := Aside0.mk h13_
               replace HB := Aside0.mk h29_
               clear h0_ h1_ h2_ h3_ h4_ h5_ h6_ h7_ h8_ h9_ h10_ h11_ h12_ h13_ h14_ h15_ h16_ h17_ h18_ h19_ h20_ h21_ h22_ h23_ h24_ h25_ h26_ h27_ h28_ h29_
               have hHeld := hS_
               obtain ⟨Ao129, co129, eo129⟩ := Kd.R_slice HO382.out
               (first | subst eo129 | (injection eo129 with f1_ f2_ f3_; have f4_ := f1_.symm; have f5_ := f3_.symm; clear f1_ f2_ f3_; subst f4_; subst f5_))
               refine norm_ (a' := ?_) ?_ ?_
               rotate_left
               ·simp only [putAll, Act.put, zp1, zp2, zp3]
                rfl
               refine one_ (i := 11) (N := none) #[zT, zT, zT, zT, zT, zT, zT, zT, zT, zT, zT, zT, zF] rfl rfl (one_of HT_.out (by kernel_rfl)) (by decide) (fun K hK => ?_)
               have hs130 : w128.cell? ⟨gb384, 0, none⟩ = some (.slice none 0 0) := zc0 BK384 0 rfl
               have hfs130 := blk_frozen BK384.out 0
               have hns130_0 := NB330_384.out
               have hns130_1 := NB331_384.out
               have hns130_2 := NB344_384.out
               have hns130_3 := NB348_384.out
               have hns130_4 := NB352_384.out
               have hns130_5 := NB357_384.out
               have hms130_0 := NB384_330.out
               have hms130_1 := NB384_331.out
               have hms130_2 := NB384_344.out
               have hms130_3 := NB384_348.out
               have hms130_4 := NB384_352.out
               have hms130_5 := NB384_357.out
               refine skip_ (w1 := ?_) (by rfl) rfl ?_ ?_
               rotate_left
               ·go_simp
                rfl
               refine hK.out _ _ ⟨((zfar NB330_384).trans (hHeld.1)), ((zfar NB331_384).trans (hHeld.2))⟩ (fun hHeld => ?_)
               clear hK K
               refine pure_ (i := 12) (N := some 20) (v := ?_) (a' := ?_) #[zT, zT, zT, zT, zT, zT, zT, zT, zT, zT, zT, zT, zT] rfl rfl (any_of HT_.out (by kernel_rfl)) (fun _ _ _ h => h) (Or.inl ⟨by rfl, ?_⟩) ?_ ?_
               rotate_left
               ·intro w'
                go_simp
                with_reducible rfl
               rotate_left
               ·simp only [Act.put, zp1, zp2, zp3, i64_w, i32_w]
                rfl
               refine done_ (done_of HT_.out (by kernel_rfl)) ?_
               have hnb131 := NB384_330.out
               have hnc131 := NB330_384.out
               have hnb132 := NB384_331.out
               have hnc132 := NB331_384.out
               have hnb133 := NB384_344.out
               have hnc133 := NB344_384.out
               have hnb134 := NB384_348.out
               have hnc134 := NB348_384.out
               have hnb135 := NB384_352.out
               have hnc135 := NB352_384.out
               have hnb136 := NB384_357.out
               have hnc136 := NB357_384.out
               have hcz137_0 := zc0 BK384 0 rfl
               have hfz137_0 := blk_frozen BK384.out 0
               have hcz138_0 := zc0 BK344 0 rfl
               have hfz138_0 := blk_frozen BK344.out 0
               try go_wp2_with (first | ((with_reducible refine gate_callee (f := 20) rfl ?_); refine goesL_ (some 114) rfl rfl Try.func20 (by kernel_rfl) rfl #[.agg #[.slice Ao129 t380.length co129], .agg #[.slice Ao69 t340.length co69]] rfl (by (try simp only [zq1, zq2, zq3]); first | done | rfl | (simp only [List.length_drop, List.length_take]; rfl)) ?_; (with_reducible refine (laws_eqRope.calls k _ _ t380 _ _ t340 true _ ?side1 ?side2 ?side3 ?side4 A48.out).mono ?_); (case side1 => refine (Kd.R_reads' (e := 60) (base := w.heap.size) (ok := fun k_ => (some k_ ≠ (v338 : Value).ownBlock ∧ (some k_ ≠ (.slice Ao69 t340.length co69 : Value).ownBlock ∧ (some k_ ≠ (.slice Ao84 t349.length co84 : Value).ownBlock ∧ (some k_ ≠ (.slice Ao93 t353.length co93 : Value).ownBlock ∧ (some k_ ≠ (.slice Ao108 t363.length co108 : Value).ownBlock ∧ some k_ ≠ (v378 : Value).ownBlock)))))) (n := t380.length) (c := co129) ?_).2.2; exact (by (with_reducible repeat (first | apply Kd.R_alloc | apply Kd.R_drewN | apply Kd.R_drew)); exact (Kd.R_mono (Kd.R_far (p := ⟨gb384, 0, none⟩) (Kd.R_types HO382.out BK384.out (by decide)) (fun _ hk => hk.2) (.slice Ao129 t380.length co129)) (fun _ h_ => h_.1)))); (case side2 => exact (Kd.R_reads' HO382.out).2.1); (case side3 => refine (Kd.R_reads' (e := 60) (base := w.heap.size) (ok := fun k_ => (some k_ ≠ (v338 : Value).ownBlock ∧ (some k_ ≠ (.slice Ao84 t349.length co84 : Value).ownBlock ∧ (some k_ ≠ (.slice Ao93 t353.length co93 : Value).ownBlock ∧ (some k_ ≠ (.slice Ao108 t363.length co108 : Value).ownBlock ∧ (some k_ ≠ (v378 : Value).ownBlock ∧ some k_ ≠ (.slice Ao129 t380.length co129 : Value).ownBlock)))))) (n := t340.length) (c := co69) ?_).2.2; exact (by (with_reducible repeat (first | apply Kd.R_alloc | apply Kd.R_drewN | apply Kd.R_drew)); exact (Kd.R_mono (Kd.R_far (p := ⟨gb384, 0, none⟩) (Kd.R_types HO342.out BK384.out (by decide)) (fun _ hk => hk.2) (.slice Ao129 t380.length co129)) (fun _ h_ => h_.1)))); (case side4 => exact (Kd.R_reads' HO342.out).2.1); rintro e w139 ⟨rfl, hb⟩; refine ⟨_, rfl, ?_⟩; replace HO339 := Aside0.mk (Kd.R_below (by (with_reducible repeat (first | apply Kd.R_alloc | apply Kd.R_drewN | apply Kd.R_drew)); exact (Kd.R_mono (Kd.R_far (p := ⟨gb384, 0, none⟩) (Kd.R_types HO339.out BK384.out (by decide)) (fun _ hk => hk.2) (.slice Ao129 t380.length co129)) (fun _ h_ => h_.1))) hb); replace HO342 := Aside0.mk (Kd.R_below (by (with_reducible repeat (first | apply Kd.R_alloc | apply Kd.R_drewN | apply Kd.R_drew)); exact (Kd.R_mono (Kd.R_far (p := ⟨gb384, 0, none⟩) (Kd.R_types HO342.out BK384.out (by decide)) (fun _ hk => hk.2) (.slice Ao129 t380.length co129)) (fun _ h_ => h_.1))) hb); replace HO351 := Aside0.mk (Kd.R_below (by (with_reducible repeat (first | apply Kd.R_alloc | apply Kd.R_drewN | apply Kd.R_drew)); exact (Kd.R_mono (Kd.R_far (p := ⟨gb384, 0, none⟩) (Kd.R_types HO351.out BK384.out (by decide)) (fun _ hk => hk.2) (.slice Ao129 t380.length co129)) (fun _ h_ => h_.1))) hb); replace HO355 := Aside0.mk (Kd.R_below (by (with_reducible repeat (first | apply Kd.R_alloc | apply Kd.R_drewN | apply Kd.R_drew)); exact (Kd.R_mono (Kd.R_far (p := ⟨gb384, 0, none⟩) (Kd.R_types HO355.out BK384.out (by decide)) (fun _ hk => hk.2) (.slice Ao129 t380.length co129)) (fun _ h_ => h_.1))) hb); replace HO365 := Aside0.mk (Kd.R_below (by (with_reducible repeat (first | apply Kd.R_alloc | apply Kd.R_drewN | apply Kd.R_drew)); exact (Kd.R_mono (Kd.R_far (p := ⟨gb384, 0, none⟩) (Kd.R_types HO365.out BK384.out (by decide)) (fun _ hk => hk.2) (.slice Ao129 t380.length co129)) (fun _ h_ => h_.1))) hb); replace HO376 := Aside0.mk (Kd.S_below (by (with_reducible repeat (first | apply Kd.S_alloc | apply Kd.S_drewN | apply Kd.S_drew)); exact (Kd.S_mono (Kd.S_far (p := ⟨gb384, 0, none⟩) (Kd.S_types HO376.out BK384.out (by decide)) (fun _ hk => hk.2) (.slice Ao129 t380.length co129)) (fun _ h_ => h_.1))) hb); replace HO379 := Aside0.mk (Kd.R_below (by (with_reducible repeat (first | apply Kd.R_alloc | apply Kd.R_drewN | apply Kd.R_drew)); exact (Kd.R_mono (Kd.R_far (p := ⟨gb384, 0, none⟩) (Kd.R_types HO379.out BK384.out (by decide)) (fun _ hk => hk.2) (.slice Ao129 t380.length co129)) (fun _ h_ => h_.1))) hb); replace HO382 := Aside0.mk (Kd.R_below (by (with_reducible repeat (first | apply Kd.R_alloc | apply Kd.R_drewN | apply Kd.R_drew)); exact (Kd.R_mono (Kd.R_far (p := ⟨gb384, 0, none⟩) (Kd.R_types HO382.out BK384.out (by decide)) (fun _ hk => hk.2) (.slice Ao129 t380.length co129)) (fun _ h_ => h_.1))) hb); replace BK330 := Aside0.mk (blk_below (g := gb330) (o := .cells #[.slice A0_0 l0_0.length c0_0] 24 (0, 0)) (by (with_reducible repeat (first | refine blk_drewN ?_ _ | refine blk_drew ?_ | refine blk_alloc ?_ _)); refine blk_far ?_ NB330_384.out _; (with_reducible repeat (first | refine blk_drewN ?_ _ | refine blk_drew ?_ | refine blk_alloc ?_ _)); exact BK330.out) hb); replace BK331 := Aside0.mk (blk_below (g := gb331) (o := .cells #[.slice A1_0 l1_0.length c1_0] 27 (0, 0)) (by (with_reducible repeat (first | refine blk_drewN ?_ _ | refine blk_drew ?_ | refine blk_alloc ?_ _)); refine blk_far ?_ NB331_384.out _; (with_reducible repeat (first | refine blk_drewN ?_ _ | refine blk_drew ?_ | refine blk_alloc ?_ _)); exact BK331.out) hb); replace BK344 := Aside0.mk (blk_below (g := gb344) (o := .cells #[.slice Ao69 t340.length co69] 32 (0, 0)) (by (with_reducible repeat (first | refine blk_drewN ?_ _ | refine blk_drew ?_ | refine blk_alloc ?_ _)); refine blk_far ?_ NB344_384.out _; (with_reducible repeat (first | refine blk_drewN ?_ _ | refine blk_drew ?_ | refine blk_alloc ?_ _)); exact BK344.out) hb); replace BK348 := Aside0.mk (blk_below (g := gb348) (o := .cells #[.slice Ao75 t345.length co75] 35 (0, 0)) (by (with_reducible repeat (first | refine blk_drewN ?_ _ | refine blk_drew ?_ | refine blk_alloc ?_ _)); refine blk_far ?_ NB348_384.out _; (with_reducible repeat (first | refine blk_drewN ?_ _ | refine blk_drew ?_ | refine blk_alloc ?_ _)); exact BK348.out) hb); replace BK352 := Aside0.mk (blk_below (g := gb352) (o := .cells #[.slice Ao84 t349.length co84] 32 (0, 0)) (by (with_reducible repeat (first | refine blk_drewN ?_ _ | refine blk_drew ?_ | refine blk_alloc ?_ _)); refine blk_far ?_ NB352_384.out _; (with_reducible repeat (first | refine blk_drewN ?_ _ | refine blk_drew ?_ | refine blk_alloc ?_ _)); exact BK352.out) hb); replace BK357 := Aside0.mk (blk_below (g := gb357) (o := .cells #[.slice Ao93 t353.length co93] 32 (0, 0)) (by (with_reducible repeat (first | refine blk_drewN ?_ _ | refine blk_drew ?_ | refine blk_alloc ?_ _)); refine blk_far ?_ NB357_384.out _; (with_reducible repeat (first | refine blk_drewN ?_ _ | refine blk_drew ?_ | refine blk_alloc ?_ _)); exact BK357.out) hb); replace BK384 := Aside0.mk (blk_below (g := gb384) (o := .cells #[.slice Ao129 t380.length co129] 32 (0, 0)) (by (with_reducible repeat (first | refine blk_drewN ?_ _ | refine blk_drew ?_ | refine blk_alloc ?_ _)); refine blk_put (cs := #[.slice none 0 0]) ?_ 0 _ rfl; (with_reducible repeat (first | refine blk_drewN ?_ _ | refine blk_drew ?_ | refine blk_alloc ?_ _)); exact BK384.out) hb); replace HB := Aside0.mk (below_step (by repeat (first | exact zh0 HB | refine below_set ?_ GE330.out | refine below_set ?_ GE331.out | refine below_set ?_ GE344.out | refine below_set ?_ GE348.out | refine below_set ?_ GE352.out | refine below_set ?_ GE357.out | refine below_set ?_ GE384.out)) hb); (try clear hb); (try clear hb2); (try clear hk); (try clear hi); have hcz140_0 := zc0 BK357 0 rfl; have hfz140_0 := blk_frozen BK357.out 0) | ((with_reducible refine gate_callee (f := 24) rfl ?_); refine goesL_ (some 123) rfl rfl Try.func24 (by kernel_rfl) rfl #[.agg #[.slice Ao93 t372.length co93], .int .i64 1] rfl (by (try simp only [zq1, zq2, zq3]); first | done | (rw [show t372.length = t353.length from (Kd.R_reads' HO355.out).1.symm] <;> rfl) | rfl | (simp only [List.length_drop, List.length_take]; rfl)) ?_; (with_reducible refine (laws_heldRope.calls k _ _ t372 1 t386 _ ?side1 ?side2 A51.out).mono ?_); (case side1 => repeat (first | exact (Kd.R_reads' HO355.out).2.2 | (with_reducible refine Kd.C_alloc ?_ _) | (with_reducible refine Kd.C_drewN ?_ _) | (with_reducible refine Kd.C_drew ?_))); (case side2 => rw [show t372.length = t353.length from (Kd.R_reads' HO355.out).1.symm]; exact (Kd.R_reads' HO355.out).2.1); rintro e w141 ⟨rfl, hb⟩; refine ⟨_, rfl, ?_⟩; replace HO339 := zrb HO339 hb; replace HO342 := zrb HO342 hb; replace HO351 := zrb HO351 hb; replace HO355 := zrb HO355 hb; replace HO365 := zrb HO365 hb; replace HO376 := zsb HO376 hb; replace HO379 := zrb HO379 hb; replace HO382 := zrb HO382 hb; replace BK330 := Aside0.mk (blk_below (g := gb330) (o := .cells #[.slice A0_0 l0_0.length c0_0] 24 (0, 0)) (by (with_reducible repeat (first | refine blk_drewN ?_ _ | refine blk_drew ?_ | refine blk_alloc ?_ _)); exact BK330.out) hb); replace BK331 := Aside0.mk (blk_below (g := gb331) (o := .cells #[.slice A1_0 l1_0.length c1_0] 27 (0, 0)) (by (with_reducible repeat (first | refine blk_drewN ?_ _ | refine blk_drew ?_ | refine blk_alloc ?_ _)); exact BK331.out) hb); replace BK344 := Aside0.mk (blk_below (g := gb344) (o := .cells #[.slice Ao69 t340.length co69] 32 (0, 0)) (by (with_reducible repeat (first | refine blk_drewN ?_ _ | refine blk_drew ?_ | refine blk_alloc ?_ _)); exact BK344.out) hb); replace BK348 := Aside0.mk (blk_below (g := gb348) (o := .cells #[.slice Ao75 t345.length co75] 35 (0, 0)) (by (with_reducible repeat (first | refine blk_drewN ?_ _ | refine blk_drew ?_ | refine blk_alloc ?_ _)); exact BK348.out) hb); replace BK352 := Aside0.mk (blk_below (g := gb352) (o := .cells #[.slice Ao84 t349.length co84] 32 (0, 0)) (by (with_reducible repeat (first | refine blk_drewN ?_ _ | refine blk_drew ?_ | refine blk_alloc ?_ _)); exact BK352.out) hb); replace BK357 := Aside0.mk (blk_below (g := gb357) (o := .cells #[.slice Ao93 t353.length co93] 32 (0, 0)) (by (with_reducible repeat (first | refine blk_drewN ?_ _ | refine blk_drew ?_ | refine blk_alloc ?_ _)); exact BK357.out) hb); replace BK384 := Aside0.mk (blk_below (g := gb384) (o := .cells #[.slice Ao129 t380.length co129] 32 (0, 0)) (by (with_reducible repeat (first | refine blk_drewN ?_ _ | refine blk_drew ?_ | refine blk_alloc ?_ _)); exact BK384.out) hb); replace HB := zhs HB hb; (try clear hb); (try clear hb2); (try clear hk); (try clear hi)))
               go_ret
               exact ⟨by first | rfl | (simp <;> rfl) | (simp [*] <;> rfl), by repeat (first | exact zh0 HB | refine below_set ?_ GE330.out | refine below_set ?_ GE331.out | refine below_set ?_ GE344.out | refine below_set ?_ GE348.out | refine below_set ?_ GE352.out | refine below_set ?_ GE357.out | refine below_set ?_ GE384.out)⟩
              ·rw [if_neg c53] at H
               exact absurd H (by simp)
           ·replace c49 := Bool.eq_false_iff.mpr c49
            subst c49
            have H1 : (none) = some r := by rw [if_neg (show ¬ (false = true) by decide)] at H; exact H
            clear H
            have H := H1
            clear H1
            exact absurd H (by simp)
          ·rw [if_neg c44] at H
           exact absurd H (by simp)
        ·replace c40 := Bool.eq_false_iff.mpr c40
         subst c40
         have H1 : (none) = some r := by rw [if_neg (show ¬ (false = true) by decide)] at H; exact H
         clear H
         have H := H1
         clear H1
         exact absurd H (by simp)
      ·replace c35 := Bool.eq_false_iff.mpr c35
       subst c35
       have H1 : (none) = some r := by rw [if_neg (show ¬ (false = true) by decide)] at H; exact H
       clear H
       have H := H1
       clear H1
       exact absurd H (by simp)
     ·replace c32 := Bool.eq_false_iff.mpr c32
      subst c32
      have H1 : (none) = some r := by rw [if_neg (show ¬ (false = true) by decide)] at H; exact H
      clear H
      have H := H1
      clear H1
      exact absurd H (by simp)
   ·replace c28 := Bool.eq_false_iff.mpr c28
    subst c28
    have H1 : (none) = some r := by rw [if_neg (show ¬ (false = true) by decide)] at H; exact H
    clear H
    have H := H1
    clear H1
    exact absurd H (by simp)

end Go.Proofs.Ytdojnaghcfhadad.PFnExactPartText
