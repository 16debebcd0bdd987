/- What is proved here: each Go function that is named below answers, and leaves memory, as the theorem of its name says; no condition beyond those that each theorem states. Laid by this session's own program (wip/driver.py) over the kit's print. -/
import Derived.Test.YtdojnaghcfhadaaPFnExactFindInRingx0
import Derived.Test.YtdojnaghcfhadaaPFnExactFindInRingx1
import Derived.Test.YtdojnaghcfhadaaPFnExactFindInRingx2
import Derived.Test.YtdojnaghcfhadaaPFnExactFindInRingx3
namespace Go.Proofs.Ytdojnaghcfhadaa.PFnExactFindInRing
open Go.RowKit Go.Proofs.YtdojnaghcfhadaaW.PrintWords Go.Proofs.YtdojnaghcfhadaaW.PrintLast Go.Proofs.YtdojnaghcfhadaaW.PrintMore
attribute [local go_sem] max2_int min2_int max_two min_two max_three min_three max_four min_four   -- for this text's walks alone
set_option linter.unusedVariables false
set_option linter.unusedSimpArgs false

open Go.Proofs.Ytdojnaghcfhadaa.Cp
/-! ### impl_FindInRing: function 49 -/
def impl_FindInRing.f (k : Nat) (l0_0 : List (List Int)) (a1_0 : Int) (a1_1 : Int) (a1_2 : Int) (a1_3 : Int) (a1_4 : Int) (a1_5 : Int) (a2 : Int) : Option (Int × Bool) := (impl_isRing.f k l0_0 a1_0 a1_1 a1_2 a1_3 a1_4 a1_5).bind fun t225 => (if t225 = true then ((impl_Memory_elements.f k l0_0 a1_0 a1_1 a1_2 a1_3 a1_4 a1_5).bind fun t226 => ((bytes_IndexByte.f t226 a2).bind fun t229 => (some (t229, true)))) else (some (0, false)))
theorem impl_FindInRing.mono : ∀ a0 a1 a2 a3 a4 a5 a6 a7 k, LeO (impl_FindInRing.f k a0 a1 a2 a3 a4 a5 a6 a7) (impl_FindInRing.f (k + 1) a0 a1 a2 a3 a4 a5 a6 a7) := by
 intro a0 a1 a2 a3 a4 a5 a6 a7 k
 unfold impl_FindInRing.f
 repeat' first
   | (with_reducible exact impl_Memory_elements.mono _ _ _ _ _ _ _ _)
   | (with_reducible exact impl_isRing.mono _ _ _ _ _ _ _ _)
   | (with_reducible exact LeO.refl _)
   | (with_reducible exact LeO.none _)
   | (with_reducible refine LeO.ite ?_ ?_)
   | (with_reducible refine LeO.bind ?_ (fun _ => ?_))
   | exact impl_Memory_elements.mono _ _ _ _ _ _ _ _
   | exact impl_isRing.mono _ _ _ _ _ _ _ _
   | exact LeO.none _
   | refine LeO.ite ?_ ?_
   | refine LeO.bind ?_ (fun _ => ?_)
set_option maxHeartbeats 8000000 in
set_option maxRecDepth 100000 in
theorem impl_FindInRing.calls (k : Nat) (A0_0 : Option Addr) (c0_0 : Nat) (l0_0 : List (List Int)) (a1_0 : Int) (a1_1 : Int) (a1_2 : Int) (a1_3 : Int) (a1_4 : Int) (a1_5 : Int) (a2 : Int) (r1 : Int) (r2 : Bool) (w : World) (hr0_0 : Kd.C (Kd.slice 5 (Kd.int .u8)) w A0_0 l0_0.length l0_0) (hc0_0 : l0_0.length ≤ c0_0) (h : impl_FindInRing.f k l0_0 a1_0 a1_1 a1_2 a1_3 a1_4 a1_5 a2 = some (r1, r2)) :
  Calls Try.prog 49 #[.agg #[.slice A0_0 l0_0.length c0_0], .agg #[.int .i64 a1_0, .int .i64 a1_1, .int .i64 a1_2, .int .i64 a1_3, .int .i64 a1_4, .int .i64 a1_5], .int .u8 a2] w fun e w' => e = .returned (.tuple #[.int .i64 r1, .bool r2]) ∧ Below w.heap.size w w' := by
 have hu32 := Try.underlying32
 have hu36 := Try.underlying36
 have HR0_0 := Aside0.mk hr0_0
 have HC0_0 := Aside0.mk hc0_0
 clear hr0_0 hc0_0
 have HB := Aside0.mk (Below.refl w.heap.size w)
 have H : ((impl_isRing.f k l0_0 a1_0 a1_1 a1_2 a1_3 a1_4 a1_5).bind fun t225 => (if t225 = true then ((impl_Memory_elements.f k l0_0 a1_0 a1_1 a1_2 a1_3 a1_4 a1_5).bind fun t226 => ((bytes_IndexByte.f t226 a2).bind fun t229 => (some (t229, true)))) else (some (0, false)))) = some (r1, r2) := h
 clear h
 replace H := Option.bind_eq_some_iff.mp H
 obtain ⟨t225, A40, H⟩ := H
 replace H : (if t225 = true then ((impl_Memory_elements.f k l0_0 a1_0 a1_1 a1_2 a1_3 a1_4 a1_5).bind fun t226 => ((bytes_IndexByte.f t226 a2).bind fun t229 => (some (t229, true)))) else (some (0, false))) = some (r1, r2) := H
 have A4 := Aside0.mk A40
 clear A40
 by_cases c5 : t225 = true
 ·subst c5
  have H1 : ((impl_Memory_elements.f k l0_0 a1_0 a1_1 a1_2 a1_3 a1_4 a1_5).bind fun t226 => ((bytes_IndexByte.f t226 a2).bind fun t229 => (some (t229, true)))) = some (r1, r2) := by rw [if_pos rfl] at H; exact H
  clear H
  have H := H1
  clear H1
  replace H := Option.bind_eq_some_iff.mp H
  obtain ⟨t226, A60, H⟩ := H
  replace H : ((bytes_IndexByte.f t226 a2).bind fun t229 => (some (t229, true))) = some (r1, r2) := H
  have A6 := Aside0.mk A60
  clear A60
  replace H := Option.bind_eq_some_iff.mp H
  obtain ⟨t229, A70, H⟩ := H
  replace H : (some (t229, true)) = some (r1, r2) := H
  have A7 := Aside0.mk A70
  clear A70
  simp only [Option.some.injEq, Prod.mk.injEq] at H
  obtain ⟨rfl, rfl⟩ := H
  go_enter Try.func49, Try.ntmps49
  go_wp2_with (first | ((with_reducible refine gate_dst (N := 3) rfl ?_); refine box_event ?hg (N := 3) ?hd (cs := #[.slice A0_0 l0_0.length c0_0]) (t := 32) ?hr ?_; (case hd => rfl); (case hg => rfl); (case hr => first | (go_simp; done) | (go_simp; rfl)); intro gb223 hg w8 hbox hb; have BK223 := Aside0.mk (hbox); have GW223 := zge HB hg; have GE223 := zge HB hg; replace HB := zhs HB hb; clear hb hbox hg) | ((with_reducible refine gate_dst (N := 4) rfl ?_); refine box_event ?hg (N := 4) ?hd (cs := #[.int .i64 a1_0, .int .i64 a1_1, .int .i64 a1_2, .int .i64 a1_3, .int .i64 a1_4, .int .i64 a1_5]) (t := 36) ?hr ?_; (case hd => rfl); (case hg => rfl); (case hr => first | (go_simp; done) | (go_simp; rfl)); intro gb224 hg w9 hbox hb; have BK224 := Aside0.mk (hbox); have GW224 := zge HB hg; have GE224 := zge HB hg; have NB223_224 := znl BK223 hg; have NB224_223 := znr BK223 hg; replace BK223 := zb0 BK223 hb; replace HB := zhs HB hb; clear hb hbox hg; have hnb10 := NB223_224.out; have hnc10 := NB224_223.out; have hcz11_0 := zc0 BK223 0 rfl; have hfz11_0 := blk_frozen BK223.out 0; have hcz12_0 := zc0 BK224 0 rfl; have hcz12_1 := zc0 BK224 1 rfl; have hcz12_2 := zc0 BK224 2 rfl; have hcz12_3 := zc0 BK224 3 rfl; have hcz12_4 := zc0 BK224 4 rfl; have hcz12_5 := zc0 BK224 5 rfl; have hfz12_0 := blk_frozen BK224.out 0; have hfz12_1 := blk_frozen BK224.out 1; have hfz12_2 := blk_frozen BK224.out 2; have hfz12_3 := blk_frozen BK224.out 3; have hfz12_4 := blk_frozen BK224.out 4; have hfz12_5 := blk_frozen BK224.out 5) | ((with_reducible refine gate_callee (f := 81) rfl ?_); refine goesL_ (some 10) rfl rfl Try.func81 (by kernel_rfl) rfl #[.agg #[.slice A0_0 l0_0.length c0_0], .agg #[.int .i64 a1_0, .int .i64 a1_1, .int .i64 a1_2, .int .i64 a1_3, .int .i64 a1_4, .int .i64 a1_5]] rfl (by (try simp only [List.map_toArray, List.map_cons, List.map_nil]); first | done | rfl | (simp only [List.length_drop, List.length_take]; rfl)) ?_; (with_reducible refine (impl_isRing.calls k _ _ l0_0 a1_0 a1_1 a1_2 a1_3 a1_4 a1_5 true _ ?side1 ?side2 A4.out).mono ?_); (case side1 => exact Kd.C_below HR0_0.out (zh0 HB)); (case side2 => exact HC0_0.out); rintro e w13 ⟨rfl, hb⟩; refine ⟨_, rfl, ?_⟩; replace BK223 := zb0 BK223 hb; replace BK224 := zb0 BK224 hb; replace HB := zhs HB hb; (try clear hb); (try clear hb2); (try clear hk); (try clear hi); have hcz14_0 := zc0 BK223 0 rfl; have hfz14_0 := blk_frozen BK223.out 0; have hcz15_0 := zc0 BK224 0 rfl; have hcz15_1 := zc0 BK224 1 rfl; have hcz15_2 := zc0 BK224 2 rfl; have hcz15_3 := zc0 BK224 3 rfl; have hcz15_4 := zc0 BK224 4 rfl; have hcz15_5 := zc0 BK224 5 rfl; have hfz15_0 := blk_frozen BK224.out 0; have hfz15_1 := blk_frozen BK224.out 1; have hfz15_2 := blk_frozen BK224.out 2; have hfz15_3 := blk_frozen BK224.out 3; have hfz15_4 := blk_frozen BK224.out 4; have hfz15_5 := blk_frozen BK224.out 5) | ((with_reducible refine gate_callee (f := 93) rfl ?_); refine goesL_ (some 14) rfl rfl Try.func93 (by kernel_rfl) rfl #[.agg #[.slice A0_0 l0_0.length c0_0], .agg #[.int .i64 a1_0, .int .i64 a1_1, .int .i64 a1_2, .int .i64 a1_3, .int .i64 a1_4, .int .i64 a1_5]] rfl (by (try simp only [List.map_toArray, List.map_cons, List.map_nil]); first | done | rfl | (simp only [List.length_drop, List.length_take]; rfl)) ?_; (with_reducible refine (impl_Memory_elements.calls k _ _ l0_0 a1_0 a1_1 a1_2 a1_3 a1_4 a1_5 t226 _ ?side1 ?side2 A6.out).mono ?_); (case side1 => exact Kd.C_below HR0_0.out (zh0 HB)); (case side2 => exact HC0_0.out); rintro e w16 ⟨v227, rfl, ho0, hb⟩; refine ⟨_, rfl, ?_⟩; have HO228 := Aside0.mk (Kd.R_lower ho0 (below_size (zh0 HB))); replace BK223 := zb0 BK223 hb; replace BK224 := zb0 BK224 hb; replace HB := zhs HB hb; (try clear hb); (try clear hb2); (try clear hk); (try clear hi); (try clear ho0); obtain ⟨Ao17, co17, eo17⟩ := Kd.R_slice HO228.out; subst eo17) | ((with_reducible refine gate_callee (f := 95) rfl ?_); refine goesL_ (some 16) rfl rfl Try.func95 (by kernel_rfl) rfl #[.slice Ao17 t226.length co17, .int .u8 a2] rfl (by (try simp only [List.map_toArray, List.map_cons, List.map_nil]); first | done | rfl | (simp only [List.length_drop, List.length_take]; rfl)) ?_; (with_reducible refine (bytes_IndexByte.calls _ _ t226 a2 t229 _ ?side1 ?side2 A7.out).mono ?_); (case side1 => repeat (first | exact (Kd.R_reads' HO228.out).2.2 | (with_reducible refine Kd.C_alloc ?_ _) | (with_reducible refine Kd.C_drewN ?_ _) | (with_reducible refine Kd.C_drew ?_))); (case side2 => exact (Kd.R_reads' HO228.out).2.1); rintro e w' ⟨rfl, ⟨nd, rfl⟩⟩; refine ⟨_, rfl, ?_⟩))
  go_ret2
  exact ⟨by first | rfl | (simp [errW_none, errW_some] <;> rfl) | (simp [*, errW_none, errW_some] <;> rfl), by repeat (first | exact zh0 HB | refine below_set ?_ GE223.out | refine below_set ?_ GE224.out)⟩
 ·replace c5 := Bool.eq_false_iff.mpr c5
  subst c5
  have H1 : (some (0, false)) = some (r1, r2) := by rw [if_neg (show ¬ (false = true) by decide)] at H; exact H
  clear H
  have H := H1
  clear H1
  simp only [Option.some.injEq, Prod.mk.injEq] at H
  obtain ⟨rfl, rfl⟩ := H
  go_enter Try.func49, Try.ntmps49
  go_wp2_with (first | ((with_reducible refine gate_dst (N := 3) rfl ?_); refine box_event ?hg (N := 3) ?hd (cs := #[.slice A0_0 l0_0.length c0_0]) (t := 32) ?hr ?_; (case hd => rfl); (case hg => rfl); (case hr => first | (go_simp; done) | (go_simp; rfl)); intro gb223 hg w18 hbox hb; have BK223 := Aside0.mk (hbox); have GW223 := zge HB hg; have GE223 := zge HB hg; replace HB := zhs HB hb; clear hb hbox hg) | ((with_reducible refine gate_dst (N := 4) rfl ?_); refine box_event ?hg (N := 4) ?hd (cs := #[.int .i64 a1_0, .int .i64 a1_1, .int .i64 a1_2, .int .i64 a1_3, .int .i64 a1_4, .int .i64 a1_5]) (t := 36) ?hr ?_; (case hd => rfl); (case hg => rfl); (case hr => first | (go_simp; done) | (go_simp; rfl)); intro gb224 hg w19 hbox hb; have BK224 := Aside0.mk (hbox); have GW224 := zge HB hg; have GE224 := zge HB hg; have NB223_224 := znl BK223 hg; have NB224_223 := znr BK223 hg; replace BK223 := zb0 BK223 hb; replace HB := zhs HB hb; clear hb hbox hg; have hnb20 := NB223_224.out; have hnc20 := NB224_223.out; have hcz21_0 := zc0 BK223 0 rfl; have hfz21_0 := blk_frozen BK223.out 0; have hcz22_0 := zc0 BK224 0 rfl; have hcz22_1 := zc0 BK224 1 rfl; have hcz22_2 := zc0 BK224 2 rfl; have hcz22_3 := zc0 BK224 3 rfl; have hcz22_4 := zc0 BK224 4 rfl; have hcz22_5 := zc0 BK224 5 rfl; have hfz22_0 := blk_frozen BK224.out 0; have hfz22_1 := blk_frozen BK224.out 1; have hfz22_2 := blk_frozen BK224.out 2; have hfz22_3 := blk_frozen BK224.out 3; have hfz22_4 := blk_frozen BK224.out 4; have hfz22_5 := blk_frozen BK224.out 5) | ((with_reducible refine gate_callee (f := 81) rfl ?_); refine goesL_ (some 10) rfl rfl Try.func81 (by kernel_rfl) rfl #[.agg #[.slice A0_0 l0_0.length c0_0], .agg #[.int .i64 a1_0, .int .i64 a1_1, .int .i64 a1_2, .int .i64 a1_3, .int .i64 a1_4, .int .i64 a1_5]] rfl (by (try simp only [List.map_toArray, List.map_cons, List.map_nil]); first | done | rfl | (simp only [List.length_drop, List.length_take]; rfl)) ?_; (with_reducible refine (impl_isRing.calls k _ _ l0_0 a1_0 a1_1 a1_2 a1_3 a1_4 a1_5 false _ ?side1 ?side2 A4.out).mono ?_); (case side1 => exact Kd.C_below HR0_0.out (zh0 HB)); (case side2 => exact HC0_0.out); rintro e w23 ⟨rfl, hb⟩; refine ⟨_, rfl, ?_⟩; replace BK223 := zb0 BK223 hb; replace BK224 := zb0 BK224 hb; replace HB := zhs HB hb; (try clear hb); (try clear hb2); (try clear hk); (try clear hi)))
  go_ret2
  exact ⟨by first | rfl | (simp [errW_none, errW_some] <;> rfl) | (simp [*, errW_none, errW_some] <;> rfl), by repeat (first | exact zh0 HB | refine below_set ?_ GE223.out | refine below_set ?_ GE224.out)⟩

open Go.Proofs.Ytdojnaghcfhadaa.Cp
/-! ### laws_FnExactFindInRing: function 12 -/
def laws_FnExactFindInRing.f (k : Nat) (l0_0 : List (List Int)) (a1_0 : Int) (a1_1 : Int) (a1_2 : Int) (a1_3 : Int) (a1_4 : Int) (a1_5 : Int) (a2 : Int) : Option (Bool) := (laws_szMemory.f k l0_0 1048576).bind fun t232 => (if t232 < 0 then (some true) else ((laws_toMemory.f k l0_0).bind fun t233 => ((laws_toRing.f a1_0 a1_1 a1_2 a1_3 a1_4 a1_5).bind fun bt236 => ((spec_FindInRing.f k t233 bt236.1 bt236.2.1 bt236.2.2.1 bt236.2.2.2.1 bt236.2.2.2.2.1 bt236.2.2.2.2.2 a2).bind fun bt242 => ((laws_toMemory.f k l0_0).bind fun t244 => ((laws_toRing.f a1_0 a1_1 a1_2 a1_3 a1_4 a1_5).bind fun bt248 => ((impl_FindInRing.f k t244 bt248.1 bt248.2.1 bt248.2.2.1 bt248.2.2.2.1 bt248.2.2.2.2.1 bt248.2.2.2.2.2 a2).bind fun bt254 => (if bt254.1 = bt242.1 then (if (bt254.2 != bt242.2) = true then (none) else ((laws_toMemory.f k l0_0).bind fun t256 => ((laws_eqMemory.f k t244 t256).bind fun t259 => (if t259 = true then (some true) else (none))))) else (none)))))))))
theorem laws_FnExactFindInRing.mono : ∀ a0 a1 a2 a3 a4 a5 a6 a7 k, LeO (laws_FnExactFindInRing.f k a0 a1 a2 a3 a4 a5 a6 a7) (laws_FnExactFindInRing.f (k + 1) a0 a1 a2 a3 a4 a5 a6 a7) := by
 intro a0 a1 a2 a3 a4 a5 a6 a7 k
 unfold laws_FnExactFindInRing.f
 repeat' first
   | (with_reducible exact impl_FindInRing.mono _ _ _ _ _ _ _ _ _)
   | (with_reducible exact laws_eqMemory.mono _ _ _)
   | (with_reducible exact laws_szMemory.mono _ _ _)
   | (with_reducible exact laws_toMemory.mono _ _)
   | (with_reducible exact spec_FindInRing.mono _ _ _ _ _ _ _ _ _)
   | (with_reducible exact LeO.refl _)
   | (with_reducible exact LeO.none _)
   | (with_reducible refine LeO.ite ?_ ?_)
   | (with_reducible refine LeO.bind ?_ (fun _ => ?_))
   | exact impl_FindInRing.mono _ _ _ _ _ _ _ _ _
   | exact laws_eqMemory.mono _ _ _
   | exact laws_szMemory.mono _ _ _
   | exact laws_toMemory.mono _ _
   | exact spec_FindInRing.mono _ _ _ _ _ _ _ _ _
   | exact LeO.none _
   | refine LeO.ite ?_ ?_
   | refine LeO.bind ?_ (fun _ => ?_)
def laws_FnExactFindInRing.T5 : Bool × List (List Nat × List Nat) := (true, [([], []), ([0], [0]), ([], []), ([2, 1], [2]), ([], []), ([1, 3, 4, 3], [1, 3, 4]), ([5], [5]), ([6], [6]), ([6], [6]), ([7, 5, 0, 1, 2, 3, 4, 5, 6, 7], [7]), ([8, 9, 0, 1, 2, 3, 4, 5, 6, 7, 8, 9], [8])])
def laws_FnExactFindInRing.B5 : List Nat := [0, 1, 0, 7, 0, 31, 63, 127, 127, 255, 1023]
theorem laws_FnExactFindInRing.tab5 : rtab .any (opsOf Try.f12 5) = laws_FnExactFindInRing.T5 := by kernel_rfl
theorem laws_FnExactFindInRing.bits5 : waitsOk laws_FnExactFindInRing.T5.2 laws_FnExactFindInRing.B5 = true := by kernel_rfl
def laws_FnExactFindInRing.T7 : Bool × List (List Nat × List Nat) := (true, [([], []), ([], []), ([1], [1]), ([], []), ([0, 2, 3, 2], [0, 2, 3]), ([4], [4]), ([5], [5]), ([5], [5]), ([6, 4, 0, 1, 2, 3, 4, 5, 6], [6]), ([7, 8, 0, 1, 2, 3, 4, 5, 6, 7, 8], [7])])
def laws_FnExactFindInRing.B7 : List Nat := [0, 0, 2, 0, 15, 31, 63, 63, 127, 511]
theorem laws_FnExactFindInRing.tab7 : rtab .any (opsOf Try.f12 7) = laws_FnExactFindInRing.T7 := by kernel_rfl
theorem laws_FnExactFindInRing.bits7 : waitsOk laws_FnExactFindInRing.T7.2 laws_FnExactFindInRing.B7 = true := by kernel_rfl
set_option maxHeartbeats 8000000 in
set_option maxRecDepth 100000 in
theorem laws_FnExactFindInRing.calls (k : Nat) (A0_0 : Option Addr) (c0_0 : Nat) (l0_0 : List (List Int)) (a1_0 : Int) (a1_1 : Int) (a1_2 : Int) (a1_3 : Int) (a1_4 : Int) (a1_5 : Int) (a2 : Int) (r : Bool) (w : World) (hr0_0 : Kd.C (Kd.slice 5 (Kd.int .u8)) w A0_0 l0_0.length l0_0) (hc0_0 : l0_0.length ≤ c0_0) (h : laws_FnExactFindInRing.f k l0_0 a1_0 a1_1 a1_2 a1_3 a1_4 a1_5 a2 = some r) :
  Calls Try.prog 12 #[.agg #[.slice A0_0 l0_0.length c0_0], .agg #[.int .i64 a1_0, .int .i64 a1_1, .int .i64 a1_2, .int .i64 a1_3, .int .i64 a1_4, .int .i64 a1_5], .int .u8 a2] w fun e w' => e = .returned (.bool r) ∧ Below w.heap.size w w' := by
 have hu24 := Try.underlying24
 have hu28 := Try.underlying28
 have hu32 := Try.underlying32
 have HR0_0 := Aside0.mk hr0_0
 have HC0_0 := Aside0.mk hc0_0
 clear hr0_0 hc0_0
 have HB := Aside0.mk (Below.refl w.heap.size w)
 have H : ((laws_szMemory.f k l0_0 1048576).bind fun t232 => (if t232 < 0 then (some true) else ((laws_toMemory.f k l0_0).bind fun t233 => ((laws_toRing.f a1_0 a1_1 a1_2 a1_3 a1_4 a1_5).bind fun bt236 => ((spec_FindInRing.f k t233 bt236.1 bt236.2.1 bt236.2.2.1 bt236.2.2.2.1 bt236.2.2.2.2.1 bt236.2.2.2.2.2 a2).bind fun bt242 => ((laws_toMemory.f k l0_0).bind fun t244 => ((laws_toRing.f a1_0 a1_1 a1_2 a1_3 a1_4 a1_5).bind fun bt248 => ((impl_FindInRing.f k t244 bt248.1 bt248.2.1 bt248.2.2.1 bt248.2.2.2.1 bt248.2.2.2.2.1 bt248.2.2.2.2.2 a2).bind fun bt254 => (if bt254.1 = bt242.1 then (if (bt254.2 != bt242.2) = true then (none) else ((laws_toMemory.f k l0_0).bind fun t256 => ((laws_eqMemory.f k t244 t256).bind fun t259 => (if t259 = true then (some true) else (none))))) else (none)))))))))) = some r := h
 clear h
 replace H := Option.bind_eq_some_iff.mp H
 obtain ⟨t232, A40, H⟩ := H
 replace H : (if t232 < 0 then (some true) else ((laws_toMemory.f k l0_0).bind fun t233 => ((laws_toRing.f a1_0 a1_1 a1_2 a1_3 a1_4 a1_5).bind fun bt236 => ((spec_FindInRing.f k t233 bt236.1 bt236.2.1 bt236.2.2.1 bt236.2.2.2.1 bt236.2.2.2.2.1 bt236.2.2.2.2.2 a2).bind fun bt242 => ((laws_toMemory.f k l0_0).bind fun t244 => ((laws_toRing.f a1_0 a1_1 a1_2 a1_3 a1_4 a1_5).bind fun bt248 => ((impl_FindInRing.f k t244 bt248.1 bt248.2.1 bt248.2.2.1 bt248.2.2.2.1 bt248.2.2.2.2.1 bt248.2.2.2.2.2 a2).bind fun bt254 => (if bt254.1 = bt242.1 then (if (bt254.2 != bt242.2) = true then (none) else ((laws_toMemory.f k l0_0).bind fun t256 => ((laws_eqMemory.f k t244 t256).bind fun t259 => (if t259 = true then (some true) else (none))))) else (none))))))))) = some r := H
 have A4 := Aside0.mk A40
 clear A40
 by_cases c5 : t232 < 0
 ·rw [if_pos c5] at H
  have c5b0 : decide (t232 < 0) = true := decide_eq_true c5
  clear c5
  obtain rfl := Option.some.inj H
  go_enter Try.func12, Try.ntmps12
  go_wp2_with (first | ((with_reducible refine gate_dst (N := 3) rfl ?_); refine box_event ?hg (N := 3) ?hd (cs := #[.slice A0_0 l0_0.length c0_0]) (t := 24) ?hr ?_; (case hd => rfl); (case hg => rfl); (case hr => first | (go_simp; done) | (go_simp; rfl)); intro gb230 hg w6 hbox hb; have BK230 := Aside0.mk (hbox); have GW230 := zge HB hg; have GE230 := zge HB hg; replace HB := zhs HB hb; clear hb hbox hg) | ((with_reducible refine gate_dst (N := 4) rfl ?_); refine box_event ?hg (N := 4) ?hd (cs := #[.int .i64 a1_0, .int .i64 a1_1, .int .i64 a1_2, .int .i64 a1_3, .int .i64 a1_4, .int .i64 a1_5]) (t := 28) ?hr ?_; (case hd => rfl); (case hg => rfl); (case hr => first | (go_simp; done) | (go_simp; rfl)); intro gb231 hg w7 hbox hb; have BK231 := Aside0.mk (hbox); have GW231 := zge HB hg; have GE231 := zge HB hg; have NB230_231 := znl BK230 hg; have NB231_230 := znr BK230 hg; replace BK230 := zb0 BK230 hb; replace HB := zhs HB hb; clear hb hbox hg; have hnb8 := NB230_231.out; have hnc8 := NB231_230.out; have hcz9_0 := zc0 BK230 0 rfl; have hfz9_0 := blk_frozen BK230.out 0) | ((with_reducible refine gate_callee (f := 14) rfl ?_); refine goesL_ (some 15) rfl rfl Try.func14 (by kernel_rfl) rfl #[.agg #[.slice A0_0 l0_0.length c0_0], .int .i64 1048576] rfl (by (try simp only [List.map_toArray, List.map_cons, List.map_nil]); first | done | rfl | (simp only [List.length_drop, List.length_take]; rfl)) ?_; (with_reducible refine (laws_szMemory.calls k _ _ l0_0 1048576 t232 _ ?side1 ?side2 A4.out).mono ?_); (case side1 => exact Kd.C_below HR0_0.out (zh0 HB)); (case side2 => exact HC0_0.out); rintro e w10 ⟨rfl, hb⟩; refine ⟨_, rfl, ?_⟩; replace BK230 := zb0 BK230 hb; replace BK231 := zb0 BK231 hb; replace HB := zhs HB hb; (try clear hb); (try clear hb2); (try clear hk); (try clear hi)))
  go_ret
  exact ⟨by first | rfl | (simp [errW_none, errW_some] <;> rfl) | (simp [*, errW_none, errW_some] <;> rfl), by repeat (first | exact zh0 HB | refine below_set ?_ GE230.out | refine below_set ?_ GE231.out)⟩
 ·rw [if_neg c5] at H
  have c5b0 : decide (t232 < 0) = false := decide_eq_false c5
  clear c5
  replace H := Option.bind_eq_some_iff.mp H
  obtain ⟨t233, A110, H⟩ := H
  replace H : ((laws_toRing.f a1_0 a1_1 a1_2 a1_3 a1_4 a1_5).bind fun bt236 => ((spec_FindInRing.f k t233 bt236.1 bt236.2.1 bt236.2.2.1 bt236.2.2.2.1 bt236.2.2.2.2.1 bt236.2.2.2.2.2 a2).bind fun bt242 => ((laws_toMemory.f k l0_0).bind fun t244 => ((laws_toRing.f a1_0 a1_1 a1_2 a1_3 a1_4 a1_5).bind fun bt248 => ((impl_FindInRing.f k t244 bt248.1 bt248.2.1 bt248.2.2.1 bt248.2.2.2.1 bt248.2.2.2.2.1 bt248.2.2.2.2.2 a2).bind fun bt254 => (if bt254.1 = bt242.1 then (if (bt254.2 != bt242.2) = true then (none) else ((laws_toMemory.f k l0_0).bind fun t256 => ((laws_eqMemory.f k t244 t256).bind fun t259 => (if t259 = true then (some true) else (none))))) else (none))))))) = some r := H
  have A11 := Aside0.mk A110
  clear A110
  replace H := Option.bind_eq_some_iff.mp H
  obtain ⟨⟨t236, t237, t238, t239, t240, t241⟩, A120, H⟩ := H
  replace H : ((spec_FindInRing.f k t233 t236 t237 t238 t239 t240 t241 a2).bind fun bt242 => ((laws_toMemory.f k l0_0).bind fun t244 => ((laws_toRing.f a1_0 a1_1 a1_2 a1_3 a1_4 a1_5).bind fun bt248 => ((impl_FindInRing.f k t244 bt248.1 bt248.2.1 bt248.2.2.1 bt248.2.2.2.1 bt248.2.2.2.2.1 bt248.2.2.2.2.2 a2).bind fun bt254 => (if bt254.1 = bt242.1 then (if (bt254.2 != bt242.2) = true then (none) else ((laws_toMemory.f k l0_0).bind fun t256 => ((laws_eqMemory.f k t244 t256).bind fun t259 => (if t259 = true then (some true) else (none))))) else (none)))))) = some r := H
  have A12 := Aside0.mk A120
  clear A120
  replace H := Option.bind_eq_some_iff.mp H
  obtain ⟨⟨t242, t243⟩, A130, H⟩ := H
  replace H : ((laws_toMemory.f k l0_0).bind fun t244 => ((laws_toRing.f a1_0 a1_1 a1_2 a1_3 a1_4 a1_5).bind fun bt248 => ((impl_FindInRing.f k t244 bt248.1 bt248.2.1 bt248.2.2.1 bt248.2.2.2.1 bt248.2.2.2.2.1 bt248.2.2.2.2.2 a2).bind fun bt254 => (if bt254.1 = t242 then (if (bt254.2 != t243) = true then (none) else ((laws_toMemory.f k l0_0).bind fun t256 => ((laws_eqMemory.f k t244 t256).bind fun t259 => (if t259 = true then (some true) else (none))))) else (none))))) = some r := H
  have A13 := Aside0.mk A130
  clear A130
  replace H := Option.bind_eq_some_iff.mp H
  obtain ⟨t244, A140, H⟩ := H
  replace H : ((laws_toRing.f a1_0 a1_1 a1_2 a1_3 a1_4 a1_5).bind fun bt248 => ((impl_FindInRing.f k t244 bt248.1 bt248.2.1 bt248.2.2.1 bt248.2.2.2.1 bt248.2.2.2.2.1 bt248.2.2.2.2.2 a2).bind fun bt254 => (if bt254.1 = t242 then (if (bt254.2 != t243) = true then (none) else ((laws_toMemory.f k l0_0).bind fun t256 => ((laws_eqMemory.f k t244 t256).bind fun t259 => (if t259 = true then (some true) else (none))))) else (none)))) = some r := H
  have A14 := Aside0.mk A140
  clear A140
  replace H := Option.bind_eq_some_iff.mp H
  obtain ⟨⟨t248, t249, t250, t251, t252, t253⟩, A150, H⟩ := H
  replace H : ((impl_FindInRing.f k t244 t248 t249 t250 t251 t252 t253 a2).bind fun bt254 => (if bt254.1 = t242 then (if (bt254.2 != t243) = true then (none) else ((laws_toMemory.f k l0_0).bind fun t256 => ((laws_eqMemory.f k t244 t256).bind fun t259 => (if t259 = true then (some true) else (none))))) else (none))) = some r := H
  have A15 := Aside0.mk A150
  clear A150
  replace H := Option.bind_eq_some_iff.mp H
  obtain ⟨⟨t254, t255⟩, A160, H⟩ := H
  replace H : (if t254 = t242 then (if (t255 != t243) = true then (none) else ((laws_toMemory.f k l0_0).bind fun t256 => ((laws_eqMemory.f k t244 t256).bind fun t259 => (if t259 = true then (some true) else (none))))) else (none)) = some r := H
  have A16 := Aside0.mk A160
  clear A160
  by_cases c17 : t254 = t242
  ·rw [if_pos c17] at H
   have c17b0 : (t254 == t242) = true := beq_iff_eq.mpr c17
   have c17b1 : (t254 != t242) = false := bne_eq_false_iff_eq.mpr c17
   clear c17
   by_cases c18 : (t255 != t243) = true
   ·rw [if_pos c18] at H
    exact absurd H (by simp)
   ·rw [if_neg c18] at H
    have c18b0 : (t255 != t243) = false := by simpa using c18
    (try (have c18b1 : decide (t255 = t243) = true := by simpa using c18))
    (try (have c18b2 : (t255 == t243) = true := by simpa using c18))
    clear c18
    replace H := Option.bind_eq_some_iff.mp H
    obtain ⟨t256, A190, H⟩ := H
    replace H : ((laws_eqMemory.f k t244 t256).bind fun t259 => (if t259 = true then (some true) else (none))) = some r := H
    have A19 := Aside0.mk A190
    clear A190
    replace H := Option.bind_eq_some_iff.mp H
    obtain ⟨t259, A200, H⟩ := H
    replace H : (if t259 = true then (some true) else (none)) = some r := H
    have A20 := Aside0.mk A200
    clear A200
    by_cases c21 : t259 = true
    ·subst c21
     have H1 : (some true) = some r := by rw [if_pos rfl] at H; exact H
     clear H
     have H := H1
     clear H1
     obtain rfl := Option.some.inj H
     go_enter Try.func12, Try.ntmps12
     try go_wp2_with (first | ((with_reducible refine gate_dst (N := 3) rfl ?_); refine box_event ?hg (N := 3) ?hd (cs := #[.slice A0_0 l0_0.length c0_0]) (t := 24) ?hr ?_; (case hd => rfl); (case hg => rfl); (case hr => first | (go_simp; done) | (go_simp; rfl)); intro gb230 hg w22 hbox hb; have BK230 := Aside0.mk (hbox); have GW230 := zge HB hg; have GE230 := zge HB hg; replace HB := zhs HB hb; clear hb hbox hg) | ((with_reducible refine gate_dst (N := 4) rfl ?_); refine box_event ?hg (N := 4) ?hd (cs := #[.int .i64 a1_0, .int .i64 a1_1, .int .i64 a1_2, .int .i64 a1_3, .int .i64 a1_4, .int .i64 a1_5]) (t := 28) ?hr ?_; (case hd => rfl); (case hg => rfl); (case hr => first | (go_simp; done) | (go_simp; rfl)); intro gb231 hg w23 hbox hb; have BK231 := Aside0.mk (hbox); have GW231 := zge HB hg; have GE231 := zge HB hg; have NB230_231 := znl BK230 hg; have NB231_230 := znr BK230 hg; replace BK230 := zb0 BK230 hb; replace HB := zhs HB hb; clear hb hbox hg; have hnb24 := NB230_231.out; have hnc24 := NB231_230.out; have hcz25_0 := zc0 BK230 0 rfl; have hfz25_0 := blk_frozen BK230.out 0) | ((with_reducible refine gate_callee (f := 14) rfl ?_); refine goesL_ (some 15) rfl rfl Try.func14 (by kernel_rfl) rfl #[.agg #[.slice A0_0 l0_0.length c0_0], .int .i64 1048576] rfl (by (try simp only [List.map_toArray, List.map_cons, List.map_nil]); first | done | rfl | (simp only [List.length_drop, List.length_take]; rfl)) ?_; (with_reducible refine (laws_szMemory.calls k _ _ l0_0 1048576 t232 _ ?side1 ?side2 A4.out).mono ?_); (case side1 => exact Kd.C_below HR0_0.out (zh0 HB)); (case side2 => exact HC0_0.out); rintro e w26 ⟨rfl, hb⟩; refine ⟨_, rfl, ?_⟩; replace BK230 := zb0 BK230 hb; replace BK231 := zb0 BK231 hb; replace HB := zhs HB hb; (try clear hb); (try clear hb2); (try clear hk); (try clear hi)))
     replace BK230 := Aside0.mk (blk_drew BK230.out)
     replace BK231 := Aside0.mk (blk_drew BK231.out)
     replace HB := Aside0.mk (below_drew1 HB.out)
     refine start_ (n := 11) (S := fun w' => w'.cell? ⟨gb230, 0, none⟩ = some (.slice A0_0 l0_0.length c0_0) ∧ w'.cell? ⟨gb231, 0, none⟩ = some (.int .i64 a1_0) ∧ w'.cell? ⟨gb231, 1, none⟩ = some (.int .i64 a1_1) ∧ w'.cell? ⟨gb231, 2, none⟩ = some (.int .i64 a1_2) ∧ w'.cell? ⟨gb231, 3, none⟩ = some (.int .i64 a1_3) ∧ w'.cell? ⟨gb231, 4, none⟩ = some (.int .i64 a1_4) ∧ w'.cell? ⟨gb231, 5, none⟩ = some (.int .i64 a1_5)) (ds := []) #[zF, zF, zF, zF, zF, zF, zF, zF, zF, zF, zF] (by kernel_rfl) rfl rfl ⟨zc0 BK230 0 rfl, zc0 BK231 0 rfl, zc0 BK231 1 rfl, zc0 BK231 2 rfl, zc0 BK231 3 rfl, zc0 BK231 4 rfl, zc0 BK231 5 rfl⟩ (fun hHeld => ?_); refine with_tabW laws_FnExactFindInRing.tab5 laws_FnExactFindInRing.bits5 (fun HT_ HW_ => ?_)
     generalize w26.drew = w27 at BK230 BK231 HB hHeld ⊢
     refine pure_ (i := 4) (N := some 23) (v := ?_) (a' := ?_) #[zF, zF, zF, zF, zT, zF, zF, zF, zF, zF, zF] rfl rfl (any_of HT_.out (by kernel_rfl)) (fun _ _ _ h => h) (Or.inl ⟨by rfl, ?_⟩) ?_ ?_
     rotate_left
     ·intro w'
      go_simp
      with_reducible rfl
     rotate_left
     ·simp only [Act.put, zp1, zp2, zp3, i64_w, i32_w]
      rfl
     refine take_ (i := 0) (N := some 19) (v := ?_) (a' := ?_) #[zT, zF, zF, zF, zT, zF, zF, zF, zF, zF, zF] rfl rfl (take_ofW HT_.out HW_.out (by kernel_rfl)) (fun _ _ _ h => h) (Or.inl ⟨by rfl, ?_⟩) hHeld ?_ ?_
     rotate_left
     ·rintro w' ⟨s0, s1, s2, s3, s4, s5, s6⟩
      go_simp
      with_reducible rfl
     rotate_left
     ·simp only [Act.put, zp1, zp2, zp3, i64_w, i32_w]
      rfl
     refine take_ (i := 2) (N := some 21) (v := ?_) (a' := ?_) #[zT, zF, zT, zF, zT, zF, zF, zF, zF, zF, zF] rfl rfl (take_ofW HT_.out HW_.out (by kernel_rfl)) (fun _ _ _ h => h) (Or.inl ⟨by rfl, ?_⟩) hHeld ?_ ?_
     rotate_left
     ·rintro w' ⟨s0, s1, s2, s3, s4, s5, s6⟩
      go_simp
      with_reducible rfl
     rotate_left
     ·simp only [Act.put, zp1, zp2, zp3, i64_w, i32_w]
      rfl
     refine one_ (i := 1) (N := some 20) #[zT, zT, zT, zF, zT, zF, zF, zF, zF, zF, zF] rfl rfl (one_of HT_.out (by kernel_rfl)) (by decide) (fun K hK => ?_)
     refine goes_ Try.func16 (by kernel_rfl) rfl #[.agg #[.slice A0_0 l0_0.length c0_0]] (by rfl) rfl rfl (by (try simp only [List.map_toArray, List.map_cons, List.map_nil]); first | done | rfl | (simp only [List.length_drop, List.length_take]; rfl)) ?_
     with_reducible refine (laws_toMemory.calls k _ _ l0_0 t233 _ ?side1 ?side2 A11.out).mono ?_
     (case side1 => exact Kd.C_below HR0_0.out (zh0 HB))
     (case side2 => exact HC0_0.out)
     rintro e w28 ⟨v234, rfl, ho0, hb⟩
     refine ⟨_, rfl, ?_⟩
     have HO235 := Aside0.mk (Kd.S_lower ho0 (below_size (zh0 HB)))
     replace BK230 := zb0 BK230 hb
     replace BK231 := zb0 BK231 hb
     replace HB := zhs HB hb
     (try clear hb)
     (try clear hb2)
     (try clear hk)
     (try clear hi)
     (try clear ho0)
     refine hK.out _ _ ⟨zc0 BK230 0 rfl, zc0 BK231 0 rfl, zc0 BK231 1 rfl, zc0 BK231 2 rfl, zc0 BK231 3 rfl, zc0 BK231 4 rfl, zc0 BK231 5 rfl⟩ (fun hHeld => ?_)
     clear hK K
     refine norm_ (a' := ?_) ?_ ?_
     rotate_left
     ·show Act.put _ (some 20) _ = _
      simp only [Act.put, zp1, zp2, zp3, i64_w, i32_w]
      rfl
     refine one_ (i := 3) (N := some 22) #[zT, zT, zT, zT, zT, zF, zF, zF, zF, zF, zF] rfl rfl (one_of HT_.out (by kernel_rfl)) (by decide) (fun K hK => ?_)
     refine goes_ Try.func17 (by kernel_rfl) rfl #[.agg #[.int .i64 a1_0, .int .i64 a1_1, .int .i64 a1_2, .int .i64 a1_3, .int .i64 a1_4, .int .i64 a1_5]] (by rfl) rfl rfl (by (try simp only [List.map_toArray, List.map_cons, List.map_nil]); first | done | rfl | (simp only [List.length_drop, List.length_take]; rfl)) ?_
     with_reducible refine (laws_toRing.calls a1_0 a1_1 a1_2 a1_3 a1_4 a1_5 t236 t237 t238 t239 t240 t241 _ A12.out).mono ?_
     rintro e w29 ⟨rfl, hb⟩
     refine ⟨_, rfl, ?_⟩
     replace HO235 := zsb HO235 hb
     replace BK230 := zb0 BK230 hb
     replace BK231 := zb0 BK231 hb
     replace HB := zhs HB hb
     (try clear hb)
     (try clear hb2)
     (try clear hk)
     (try clear hi)
     obtain ⟨Ao30, co30, eo30⟩ := Kd.S_slice HO235.out
     (first | subst eo30 | (injection eo30 with f1_ f2_ f3_; have f4_ := f1_.symm; have f5_ := f3_.symm; clear f1_ f2_ f3_; subst f4_; subst f5_))
     refine hK.out _ _ ⟨zc0 BK230 0 rfl, zc0 BK231 0 rfl, zc0 BK231 1 rfl, zc0 BK231 2 rfl, zc0 BK231 3 rfl, zc0 BK231 4 rfl, zc0 BK231 5 rfl⟩ (fun hHeld => ?_)
     clear hK K
     refine norm_ (a' := ?_) ?_ ?_
     rotate_left
     ·show Act.put _ (some 22) _ = _
      simp only [Act.put, zp1, zp2, zp3, i64_w, i32_w]
      rfl
     refine one_ (i := 5) (N := some 24) #[zT, zT, zT, zT, zT, zT, zF, zF, zF, zF, zF] rfl rfl (one_of HT_.out (by kernel_rfl)) (by decide) (fun K hK => ?_)
     refine goes_ Try.func48 (by kernel_rfl) rfl #[.agg #[.slice Ao30 t233.length co30], .agg #[.int .i64 t236, .int .i64 t237, .int .i64 t238, .int .i64 t239, .int .i64 t240, .int .i64 t241], .int .u8 a2] (by rfl) rfl rfl (by (try simp only [List.map_toArray, List.map_cons, List.map_nil]); first | done | rfl | (simp only [List.length_drop, List.length_take]; rfl)) ?_
     with_reducible refine (spec_FindInRing.calls k _ _ t233 t236 t237 t238 t239 t240 t241 a2 t242 t243 _ ?side1 ?side2 A13.out).mono ?_
     (case side1 => repeat (first | exact (Kd.S_reads' HO235.out).2.2 | (with_reducible refine Kd.C_alloc ?_ _) | (with_reducible refine Kd.C_drewN ?_ _) | (with_reducible refine Kd.C_drew ?_)))
     (case side2 => exact (Kd.S_reads' HO235.out).2.1)
     rintro e w31 ⟨rfl, hb⟩
     refine ⟨_, rfl, ?_⟩
     replace HO235 := zsb HO235 hb
     replace BK230 := zb0 BK230 hb
     replace BK231 := zb0 BK231 hb
     replace HB := zhs HB hb
     (try clear hb)
     (try clear hb2)
     (try clear hk)
     (try clear hi)
     refine hK.out _ _ ⟨zc0 BK230 0 rfl, zc0 BK231 0 rfl, zc0 BK231 1 rfl, zc0 BK231 2 rfl, zc0 BK231 3 rfl, zc0 BK231 4 rfl, zc0 BK231 5 rfl⟩ (fun hHeld => ?_)
     clear hK K
     refine norm_ (a' := ?_) ?_ ?_
     rotate_left
     ·show Act.put _ (some 24) _ = _
      simp only [Act.put, zp1, zp2, zp3, i64_w, i32_w]
      rfl
     refine pure_ (i := 6) (N := some 18) (v := ?_) (a' := ?_) #[zT, zT, zT, zT, zT, zT, zT, zF, zF, zF, zF] rfl rfl (any_of HT_.out (by kernel_rfl)) (fun _ _ _ h => h) (Or.inl ⟨by rfl, ?_⟩) ?_ ?_
     rotate_left
     ·intro w'
      go_simp
      with_reducible rfl
     rotate_left
     ·simp only [Act.put, zp1, zp2, zp3, i64_w, i32_w]
      rfl
     refine pure_ (i := 7) (N := some 25) (v := ?_) (a' := ?_) #[zT, zT, zT, zT, zT, zT, zT, zT, zF, zF, zF] rfl rfl (any_of HT_.out (by kernel_rfl)) (fun _ _ _ h => h) (Or.inl ⟨by rfl, ?_⟩) ?_ ?_
     rotate_left
     ·intro w'
      go_simp
      with_reducible rfl
     rotate_left
     ·simp only [Act.put, zp1, zp2, zp3, i64_w, i32_w]
      rfl
     refine pure_ (i := 8) (N := some 26) (v := ?_) (a' := ?_) #[zT, zT, zT, zT, zT, zT, zT, zT, zT, zF, zF] rfl rfl (any_of HT_.out (by kernel_rfl)) (fun _ _ _ h => h) (Or.inl ⟨by rfl, ?_⟩) ?_ ?_
     rotate_left
     ·intro w'
      go_simp
      with_reducible rfl
     rotate_left
     ·simp only [Act.put, zp1, zp2, zp3, i64_w, i32_w]
      rfl
     refine pure_ (i := 9) (N := some 8) (v := ?_) (a' := ?_) #[zT, zT, zT, zT, zT, zT, zT, zT, zT, zT, zF] rfl rfl (any_of HT_.out (by kernel_rfl)) (fun _ _ _ h => h) (Or.inl ⟨by rfl, ?_⟩) ?_ ?_
     rotate_left
     ·intro w'
      go_simp
      with_reducible rfl
     rotate_left
     ·simp only [Act.put, zp1, zp2, zp3, i64_w, i32_w]
      rfl
     refine pure_ (i := 10) (N := some 9) (v := ?_) (a' := ?_) #[zT, zT, zT, zT, zT, zT, zT, zT, zT, zT, zT] rfl rfl (any_of HT_.out (by kernel_rfl)) (fun _ _ _ h => h) (Or.inl ⟨by rfl, ?_⟩) ?_ ?_
     rotate_left
     ·intro w'
      go_simp
      with_reducible rfl
     rotate_left
     ·simp only [Act.put, zp1, zp2, zp3, i64_w, i32_w]
      rfl
     refine done_ (done_of HT_.out (by kernel_rfl)) ?_
     have hcz32_0 := zc0 BK230 0 rfl
     have hfz32_0 := blk_frozen BK230.out 0
     try go_wp2_with (first | ((with_reducible refine gate_callee (f := 16) rfl ?_); refine goesL_ (some 28) rfl rfl Try.func16 (by kernel_rfl) rfl #[.agg #[.slice A0_0 l0_0.length c0_0]] rfl (by (try simp only [List.map_toArray, List.map_cons, List.map_nil]); first | done | rfl | (simp only [List.length_drop, List.length_take]; rfl)) ?_; (with_reducible refine (laws_toMemory.calls k _ _ l0_0 t244 _ ?side1 ?side2 A14.out).mono ?_); (case side1 => exact Kd.C_below HR0_0.out (zh0 HB)); (case side2 => exact HC0_0.out); rintro e w33 ⟨v245, rfl, ho0, hb⟩; refine ⟨_, rfl, ?_⟩; have HO246 := Aside0.mk (Kd.S_lower (Kd.S_new' ho0 (Kd.S_lt (zs0 HO235))) (below_size (zh0 HB))); replace HO235 := Aside0.mk (Kd.S_elder' (zs0 HO235) (Kd.S_base ho0) hb); replace BK230 := zb0 BK230 hb; replace BK231 := zb0 BK231 hb; replace HB := zhs HB hb; (try clear hb); (try clear hb2); (try clear hk); (try clear hi); (try clear ho0)) | ((with_reducible refine gate_dst (N := 10) rfl ?_); refine box_event ?hg (N := 10) ?hd (cs := #[.slice none 0 0]) (t := 32) ?hr ?_; (case hd => rfl); (case hg => rfl); (case hr => first | (go_simp; done) | (go_simp; rfl)); intro gb247 hg w34 hbox hb; have BK247 := Aside0.mk (hbox); have GW247 := Aside0.mk ((by rw [hg]; exact (below_size (by repeat (first | exact zh0 HB | refine below_set ?_ GE230.out | refine below_set ?_ GE231.out))) : w.heap.size ≤ gb247)); have GE247 := Aside0.mk ((by rw [hg]; exact (below_size (by repeat (first | exact zh0 HB | refine below_set ?_ GE230.out | refine below_set ?_ GE231.out))) : w.heap.size ≤ gb247)); have NB230_247 := znl BK230 hg; have NB247_230 := znr BK230 hg; have NB231_247 := znl BK231 hg; have NB247_231 := znr BK231 hg; replace HO235 := zsb HO235 hb; replace HO246 := zsb HO246 hb; replace BK230 := zb0 BK230 hb; replace BK231 := zb0 BK231 hb; replace HB := Aside0.mk (below_step (by repeat (first | exact zh0 HB | refine below_set ?_ GE230.out | refine below_set ?_ GE231.out)) hb); clear hb hbox hg; obtain ⟨Ao35, co35, eo35⟩ := Kd.S_slice HO246.out; subst eo35; have hnb36 := NB247_230.out; have hnc36 := NB230_247.out; have hnb37 := NB247_231.out; have hnc37 := NB231_247.out; have hcz38_0 := zc0 BK247 0 rfl; have hfz38_0 := blk_frozen BK247.out 0))
     have n0_ : Aside0 (Kd.S (Kd.slice 5 (Kd.int .u8)) 65 (w34.setCell ⟨gb247, 0, none⟩ (.slice Ao35 t244.length co35)) w.heap.size (fun k_ => some k_ ≠ (.slice Ao35 t244.length co35 : Value).ownBlock) (.slice Ao30 t233.length co30) t233) := ⟨by (with_reducible repeat (first | apply Kd.S_alloc | apply Kd.S_drewN | apply Kd.S_drew)); exact Kd.S_mono (Kd.S_far (p := ⟨gb247, 0, none⟩) (Kd.S_types HO235.out BK247.out (by decide)) (fun _ hk => hk.2) (.slice Ao35 t244.length co35)) (fun _ hk => hk.1.2)⟩
     have n1_ : Aside0 (Kd.S (Kd.slice 5 (Kd.int .u8)) 65 (w34.setCell ⟨gb247, 0, none⟩ (.slice Ao35 t244.length co35)) w.heap.size (fun k_ => some k_ ≠ (.slice Ao30 t233.length co30 : Value).ownBlock) (.slice Ao35 t244.length co35) t244) := ⟨by (with_reducible repeat (first | apply Kd.S_alloc | apply Kd.S_drewN | apply Kd.S_drew)); exact Kd.S_mono (Kd.S_far (p := ⟨gb247, 0, none⟩) (Kd.S_types HO246.out BK247.out (by decide)) (fun _ hk => hk.2) (.slice Ao35 t244.length co35)) (fun _ hk => hk.1.2)⟩
     have n2_ : Aside0 ((w34.setCell ⟨gb247, 0, none⟩ (.slice Ao35 t244.length co35)).heap[gb230]? = some (.cells #[.slice A0_0 l0_0.length c0_0] 24 (0, 0))) := ⟨by (with_reducible repeat (first | refine blk_drewN ?_ _ | refine blk_drew ?_ | refine blk_alloc ?_ _)); refine blk_far ?_ NB230_247.out _; (with_reducible repeat (first | refine blk_drewN ?_ _ | refine blk_drew ?_ | refine blk_alloc ?_ _)); exact BK230.out⟩
     have n3_ : Aside0 ((w34.setCell ⟨gb247, 0, none⟩ (.slice Ao35 t244.length co35)).heap[gb231]? = some (.cells #[.int .i64 a1_0, .int .i64 a1_1, .int .i64 a1_2, .int .i64 a1_3, .int .i64 a1_4, .int .i64 a1_5] 28 (0, 0))) := ⟨by (with_reducible repeat (first | refine blk_drewN ?_ _ | refine blk_drew ?_ | refine blk_alloc ?_ _)); refine blk_far ?_ NB231_247.out _; (with_reducible repeat (first | refine blk_drewN ?_ _ | refine blk_drew ?_ | refine blk_alloc ?_ _)); exact BK231.out⟩
     have n4_ : Aside0 ((w34.setCell ⟨gb247, 0, none⟩ (.slice Ao35 t244.length co35)).heap[gb247]? = some (.cells #[.slice Ao35 t244.length co35] 32 (0, 0))) := ⟨by (with_reducible repeat (first | refine blk_drewN ?_ _ | refine blk_drew ?_ | refine blk_alloc ?_ _)); refine blk_put (cs := #[.slice none 0 0]) ?_ 0 _ rfl; (with_reducible repeat (first | refine blk_drewN ?_ _ | refine blk_drew ?_ | refine blk_alloc ?_ _)); exact BK247.out⟩
     have n5_ : Aside0 (Below w.heap.size w (w34.setCell ⟨gb247, 0, none⟩ (.slice Ao35 t244.length co35))) := ⟨by repeat (first | exact zh0 HB | refine below_set ?_ GE230.out | refine below_set ?_ GE231.out | refine below_set ?_ GE247.out)⟩
     (try clear HO235)
     (try clear HO246)
     (try clear BK230)
     (try clear BK231)
     (try clear BK247)
     (try clear HB)
     generalize (w34.setCell ⟨gb247, 0, none⟩ (.slice Ao35 t244.length co35)) = w39 at n0_ n1_ n2_ n3_ n4_ n5_ ⊢
     have HO235 := n0_
     have HO246 := n1_
     have BK230 := n2_
     have BK231 := n3_
     have BK247 := n4_
     have HB := n5_
     clear n0_ n1_ n2_ n3_ n4_ n5_
     replace HO235 := Aside0.mk (Kd.S_drew HO235.out)
     replace HO246 := Aside0.mk (Kd.S_drew HO246.out)
     replace BK230 := Aside0.mk (blk_drew BK230.out)
     replace BK231 := Aside0.mk (blk_drew BK231.out)
     replace BK247 := Aside0.mk (blk_drew BK247.out)
     replace HB := Aside0.mk (below_drew1 HB.out)
     refine start_ (n := 10) (S := fun w' => w'.cell? ⟨gb247, 0, none⟩ = some (.slice Ao35 t244.length co35) ∧ w'.cell? ⟨gb231, 0, none⟩ = some (.int .i64 a1_0) ∧ w'.cell? ⟨gb231, 1, none⟩ = some (.int .i64 a1_1) ∧ w'.cell? ⟨gb231, 2, none⟩ = some (.int .i64 a1_2) ∧ w'.cell? ⟨gb231, 3, none⟩ = some (.int .i64 a1_3) ∧ w'.cell? ⟨gb231, 4, none⟩ = some (.int .i64 a1_4) ∧ w'.cell? ⟨gb231, 5, none⟩ = some (.int .i64 a1_5)) (ds := []) #[zF, zF, zF, zF, zF, zF, zF, zF, zF, zF] (by kernel_rfl) rfl rfl ⟨zc0 BK247 0 rfl, zc0 BK231 0 rfl, zc0 BK231 1 rfl, zc0 BK231 2 rfl, zc0 BK231 3 rfl, zc0 BK231 4 rfl, zc0 BK231 5 rfl⟩ (fun hHeld => ?_); refine with_tabW laws_FnExactFindInRing.tab7 laws_FnExactFindInRing.bits7 (fun HT_ HW_ => ?_)
     generalize w39.drew = w40 at HO235 HO246 BK230 BK231 BK247 HB hHeld ⊢
     refine pure_ (i := 3) (N := some 33) (v := ?_) (a' := ?_) #[zF, zF, zF, zT, zF, zF, zF, zF, zF, zF] rfl rfl (any_of HT_.out (by kernel_rfl)) (fun _ _ _ h => h) (Or.inl ⟨by rfl, ?_⟩) ?_ ?_
     rotate_left
     ·intro w'
      go_simp
      with_reducible rfl
     rotate_left
     ·simp only [Act.put, zp1, zp2, zp3, i64_w, i32_w]
      rfl
     refine take_ (i := 0) (N := some 30) (v := ?_) (a' := ?_) #[zT, zF, zF, zT, zF, zF, zF, zF, zF, zF] rfl rfl (take_ofW HT_.out HW_.out (by kernel_rfl)) (fun _ _ _ h => h) (Or.inl ⟨by rfl, ?_⟩) hHeld ?_ ?_
     rotate_left
     ·rintro w' ⟨s0, s1, s2, s3, s4, s5, s6⟩
      go_simp
      with_reducible rfl
     rotate_left
     ·simp only [Act.put, zp1, zp2, zp3, i64_w, i32_w]
      rfl
     refine take_ (i := 1) (N := some 31) (v := ?_) (a' := ?_) #[zT, zT, zF, zT, zF, zF, zF, zF, zF, zF] rfl rfl (take_ofW HT_.out HW_.out (by kernel_rfl)) (fun _ _ _ h => h) (Or.inl ⟨by rfl, ?_⟩) hHeld ?_ ?_
     rotate_left
     ·rintro w' ⟨s0, s1, s2, s3, s4, s5, s6⟩
      go_simp
      with_reducible rfl
     rotate_left
     ·simp only [Act.put, zp1, zp2, zp3, i64_w, i32_w]
      rfl
     refine one_ (i := 2) (N := some 32) #[zT, zT, zT, zT, zF, zF, zF, zF, zF, zF] rfl rfl (one_of HT_.out (by kernel_rfl)) (by decide) (fun K hK => ?_)
     refine goes_ Try.func17 (by kernel_rfl) rfl #[.agg #[.int .i64 a1_0, .int .i64 a1_1, .int .i64 a1_2, .int .i64 a1_3, .int .i64 a1_4, .int .i64 a1_5]] (by rfl) rfl rfl (by (try simp only [List.map_toArray, List.map_cons, List.map_nil]); first | done | rfl | (simp only [List.length_drop, List.length_take]; rfl)) ?_
     with_reducible refine (laws_toRing.calls a1_0 a1_1 a1_2 a1_3 a1_4 a1_5 t248 t249 t250 t251 t252 t253 _ A15.out).mono ?_
     rintro e w41 ⟨rfl, hb⟩
     refine ⟨_, rfl, ?_⟩
     replace HO235 := zsb HO235 hb
     replace HO246 := zsb HO246 hb
     replace BK230 := zb0 BK230 hb
     replace BK231 := zb0 BK231 hb
     replace BK247 := zb0 BK247 hb
     replace HB := zhs HB hb
     (try clear hb)
     (try clear hb2)
     (try clear hk)
     (try clear hi)
     refine hK.out _ _ ⟨zc0 BK247 0 rfl, zc0 BK231 0 rfl, zc0 BK231 1 rfl, zc0 BK231 2 rfl, zc0 BK231 3 rfl, zc0 BK231 4 rfl, zc0 BK231 5 rfl⟩ (fun hHeld => ?_)
     clear hK K
     refine norm_ (a' := ?_) ?_ ?_
     rotate_left
     ·show Act.put _ (some 32) _ = _
      simp only [Act.put, zp1, zp2, zp3, i64_w, i32_w]
      rfl
     refine one_ (i := 4) (N := some 34) #[zT, zT, zT, zT, zT, zF, zF, zF, zF, zF] rfl rfl (one_of HT_.out (by kernel_rfl)) (by decide) (fun K hK => ?_)
     refine goes_ Try.func49 (by kernel_rfl) rfl #[.agg #[.slice Ao35 t244.length co35], .agg #[.int .i64 t248, .int .i64 t249, .int .i64 t250, .int .i64 t251, .int .i64 t252, .int .i64 t253], .int .u8 a2] (by rfl) rfl rfl (by (try simp only [List.map_toArray, List.map_cons, List.map_nil]); first | done | rfl | (simp only [List.length_drop, List.length_take]; rfl)) ?_
     with_reducible refine (impl_FindInRing.calls k _ _ t244 t248 t249 t250 t251 t252 t253 a2 t254 t255 _ ?side1 ?side2 A16.out).mono ?_
     (case side1 => repeat (first | exact (Kd.S_reads' HO246.out).2.2 | (with_reducible refine Kd.C_alloc ?_ _) | (with_reducible refine Kd.C_drewN ?_ _) | (with_reducible refine Kd.C_drew ?_)))
     (case side2 => exact (Kd.S_reads' HO246.out).2.1)
     rintro e w42 ⟨rfl, hb⟩
     refine ⟨_, rfl, ?_⟩
     replace HO235 := zsb HO235 hb
     replace HO246 := zsb HO246 hb
     replace BK230 := zb0 BK230 hb
     replace BK231 := zb0 BK231 hb
     replace BK247 := zb0 BK247 hb
     replace HB := zhs HB hb
     (try clear hb)
     (try clear hb2)
     (try clear hk)
     (try clear hi)
     refine hK.out _ _ ⟨zc0 BK247 0 rfl, zc0 BK231 0 rfl, zc0 BK231 1 rfl, zc0 BK231 2 rfl, zc0 BK231 3 rfl, zc0 BK231 4 rfl, zc0 BK231 5 rfl⟩ (fun hHeld => ?_)
     clear hK K
     refine norm_ (a' := ?_) ?_ ?_
     rotate_left
     ·show Act.put _ (some 34) _ = _
      simp only [Act.put, zp1, zp2, zp3, i64_w, i32_w]
      rfl
     refine pure_ (i := 5) (N := some 29) (v := ?_) (a' := ?_) #[zT, zT, zT, zT, zT, zT, zF, zF, zF, zF] rfl rfl (any_of HT_.out (by kernel_rfl)) (fun _ _ _ h => h) (Or.inl ⟨by rfl, ?_⟩) ?_ ?_
     rotate_left
     ·intro w'
      go_simp
      with_reducible rfl
     rotate_left
     ·simp only [Act.put, zp1, zp2, zp3, i64_w, i32_w]
      rfl
     refine pure_ (i := 6) (N := some 35) (v := ?_) (a' := ?_) #[zT, zT, zT, zT, zT, zT, zT, zF, zF, zF] rfl rfl (any_of HT_.out (by kernel_rfl)) (fun _ _ _ h => h) (Or.inl ⟨by rfl, ?_⟩) ?_ ?_
     rotate_left
     ·intro w'
      go_simp
      with_reducible rfl
     rotate_left
     ·simp only [Act.put, zp1, zp2, zp3, i64_w, i32_w]
      rfl
     refine pure_ (i := 7) (N := some 36) (v := ?_) (a' := ?_) #[zT, zT, zT, zT, zT, zT, zT, zT, zF, zF] rfl rfl (any_of HT_.out (by kernel_rfl)) (fun _ _ _ h => h) (Or.inl ⟨by rfl, ?_⟩) ?_ ?_
     rotate_left
     ·intro w'
      go_simp
      with_reducible rfl
     rotate_left
     ·simp only [Act.put, zp1, zp2, zp3, i64_w, i32_w]
      rfl
     refine pure_ (i := 8) (N := some 11) (v := ?_) (a' := ?_) #[zT, zT, zT, zT, zT, zT, zT, zT, zT, zF] rfl rfl (any_of HT_.out (by kernel_rfl)) (fun _ _ _ h => h) (Or.inl ⟨by rfl, ?_⟩) ?_ ?_
     rotate_left
     ·intro w'
      go_simp
      with_reducible rfl
     rotate_left
     ·simp only [Act.put, zp1, zp2, zp3, i64_w, i32_w]
      rfl
     refine pure_ (i := 9) (N := some 12) (v := ?_) (a' := ?_) #[zT, zT, zT, zT, zT, zT, zT, zT, zT, zT] rfl rfl (any_of HT_.out (by kernel_rfl)) (fun _ _ _ h => h) (Or.inl ⟨by rfl, ?_⟩) ?_ ?_
     rotate_left
     ·intro w'
      go_simp
      with_reducible rfl
     rotate_left
     ·simp only [Act.put, zp1, zp2, zp3, i64_w, i32_w]
      rfl
     refine done_ (done_of HT_.out (by kernel_rfl)) ?_
     try go_wp2
     replace HO235 := Aside0.mk (Kd.S_drew HO235.out)
     replace HO246 := Aside0.mk (Kd.S_drew HO246.out)
     replace BK230 := Aside0.mk (blk_drew BK230.out)
     replace BK231 := Aside0.mk (blk_drew BK231.out)
     replace BK247 := Aside0.mk (blk_drew BK247.out)
     replace HB := Aside0.mk (below_drew1 HB.out)
     refine start_ (n := 5) (S := fun w' => w'.cell? ⟨gb247, 0, none⟩ = some (.slice Ao35 t244.length co35) ∧ w'.cell? ⟨gb230, 0, none⟩ = some (.slice A0_0 l0_0.length c0_0)) (ds := []) #[zF, zF, zF, zF, zF] (by kernel_rfl) rfl rfl ⟨zc0 BK247 0 rfl, zc0 BK230 0 rfl⟩ (fun hHeld => ?_)
     generalize w42.drew = w43 at HO235 HO246 BK230 BK231 BK247 HB hHeld ⊢
     refine take_ (i := 0) (N := some 45) (v := ?_) (a' := ?_) #[zT, zF, zF, zF, zF] rfl rfl (by kernel_rfl) (fun _ _ _ h => h) (Or.inl ⟨by rfl, ?_⟩) hHeld ?_ ?_
     rotate_left
     ·rintro w' ⟨s0, s1⟩
      go_simp
      with_reducible rfl
     rotate_left
     ·simp only [Act.put, zp1, zp2, zp3, i64_w, i32_w]
      rfl
     refine take_ (i := 1) (N := some 46) (v := ?_) (a' := ?_) #[zT, zT, zF, zF, zF] rfl rfl (by kernel_rfl) (fun _ _ _ h => h) (Or.inl ⟨by rfl, ?_⟩) hHeld ?_ ?_
     rotate_left
     ·rintro w' ⟨s0, s1⟩
      go_simp
      with_reducible rfl
     rotate_left
     ·simp only [Act.put, zp1, zp2, zp3, i64_w, i32_w]
      rfl
     refine one_ (i := 2) (N := some 47) #[zT, zT, zT, zF, zF] rfl rfl (by kernel_rfl) (by decide) (fun K hK => ?_)
     refine goes_ Try.func16 (by kernel_rfl) rfl #[.agg #[.slice A0_0 l0_0.length c0_0]] (by rfl) rfl rfl (by (try simp only [List.map_toArray, List.map_cons, List.map_nil]); first | done | rfl | (simp only [List.length_drop, List.length_take]; rfl)) ?_
     with_reducible refine (laws_toMemory.calls k _ _ l0_0 t256 _ ?side1 ?side2 A19.out).mono ?_
     (case side1 => exact Kd.C_below HR0_0.out (zh0 HB))
     (case side2 => exact HC0_0.out)
     rintro e w44 ⟨v257, rfl, ho0, hb⟩
     refine ⟨_, rfl, ?_⟩
     have HO258 := Aside0.mk (Kd.S_lower (Kd.S_new' (Kd.S_new' ho0 (Kd.S_lt (zs0 HO235))) (Kd.S_lt (zs0 HO246))) (below_size (zh0 HB)))
     replace HO235 := Aside0.mk (Kd.S_elder' (zs0 HO235) (Kd.S_base ho0) hb)
     replace HO246 := Aside0.mk (Kd.S_elder' (zs0 HO246) (Kd.S_base ho0) hb)
     replace BK230 := zb0 BK230 hb
     replace BK231 := zb0 BK231 hb
     replace BK247 := zb0 BK247 hb
     replace HB := zhs HB hb
     (try clear hb)
     (try clear hb2)
     (try clear hk)
     (try clear hi)
     (try clear ho0)
     obtain ⟨Ao45, co45, eo45⟩ := Kd.S_slice HO258.out
     (first | subst eo45 | (injection eo45 with f1_ f2_ f3_; have f4_ := f1_.symm; have f5_ := f3_.symm; clear f1_ f2_ f3_; subst f4_; subst f5_))
     refine hK.out _ _ ⟨zc0 BK247 0 rfl, zc0 BK230 0 rfl⟩ (fun hHeld => ?_)
     clear hK K
     refine norm_ (a' := ?_) ?_ ?_
     rotate_left
     ·show Act.put _ (some 47) _ = _
      simp only [Act.put, zp1, zp2, zp3, i64_w, i32_w]
      rfl
     refine one_ (i := 3) (N := some 48) #[zT, zT, zT, zT, zF] rfl rfl (by kernel_rfl) (by decide) (fun K hK => ?_)
     refine goes_ Try.func19 (by kernel_rfl) rfl #[.agg #[.slice Ao35 t244.length co35], .agg #[.slice Ao45 t256.length co45]] (by rfl) rfl rfl (by (try simp only [List.map_toArray, List.map_cons, List.map_nil]); first | done | rfl | (simp only [List.length_drop, List.length_take]; rfl)) ?_
     with_reducible refine (laws_eqMemory.calls k _ _ t244 _ _ t256 true _ ?side1 ?side2 ?side3 ?side4 A20.out).mono ?_
     (case side1 => repeat (first | exact (Kd.S_reads' HO246.out).2.2 | (with_reducible refine Kd.C_alloc ?_ _) | (with_reducible refine Kd.C_drewN ?_ _) | (with_reducible refine Kd.C_drew ?_)))
     (case side2 => exact (Kd.S_reads' HO246.out).2.1)
     (case side3 => repeat (first | exact (Kd.S_reads' HO258.out).2.2 | (with_reducible refine Kd.C_alloc ?_ _) | (with_reducible refine Kd.C_drewN ?_ _) | (with_reducible refine Kd.C_drew ?_)))
     (case side4 => exact (Kd.S_reads' HO258.out).2.1)
     rintro e w46 ⟨rfl, hb⟩
     refine ⟨_, rfl, ?_⟩
     replace HO235 := zsb HO235 hb
     replace HO246 := zsb HO246 hb
     replace HO258 := zsb HO258 hb
     replace BK230 := zb0 BK230 hb
     replace BK231 := zb0 BK231 hb
     replace BK247 := zb0 BK247 hb
     replace HB := zhs HB hb
     (try clear hb)
     (try clear hb2)
     (try clear hk)
     (try clear hi)
     refine hK.out _ _ ⟨zc0 BK247 0 rfl, zc0 BK230 0 rfl⟩ (fun hHeld => ?_)
     clear hK K
     refine norm_ (a' := ?_) ?_ ?_
     rotate_left
     ·show Act.put _ (some 48) _ = _
      simp only [Act.put, zp1, zp2, zp3, i64_w, i32_w]
      rfl
     refine pure_ (i := 4) (N := some 49) (v := ?_) (a' := ?_) #[zT, zT, zT, zT, zT] rfl rfl (by kernel_rfl) (fun _ _ _ h => h) (Or.inl ⟨by rfl, ?_⟩) ?_ ?_
     rotate_left
     ·intro w'
      go_simp
      with_reducible rfl
     rotate_left
     ·simp only [Act.put, zp1, zp2, zp3, i64_w, i32_w]
      rfl
     refine done_ (by kernel_rfl) ?_
     try go_wp2
     go_ret
     exact ⟨by first | rfl | (simp [errW_none, errW_some] <;> rfl) | (simp [*, errW_none, errW_some] <;> rfl), by repeat (first | exact zh0 HB | refine below_set ?_ GE230.out | refine below_set ?_ GE231.out | refine below_set ?_ GE247.out)⟩
    ·replace c21 := Bool.eq_false_iff.mpr c21
     subst c21
     have H1 : (none) = some r := by rw [if_neg (show ¬ (false = true) by decide)] at H; exact H
     clear H
     have H := H1
     clear H1
     exact absurd H (by simp)
  ·rw [if_neg c17] at H
   exact absurd H (by simp)

end Go.Proofs.Ytdojnaghcfhadaa.PFnExactFindInRing
