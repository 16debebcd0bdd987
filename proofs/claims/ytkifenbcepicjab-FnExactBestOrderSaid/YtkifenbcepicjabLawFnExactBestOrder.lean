/- What is proved here: the law FnExactBestOrder: for every input it returns true, and its arguments read as before. No condition beyond those that the text states. Laid by this session's own program. -/
import Derived.Test.YtkifenbcepicjabRows
import Derived.Test.YtkifenbcepicjabQFnExactBestOrder
import Derived.Test.YtkifenbcepicjabPureFnExactBestOrder
import Derived.Test.YtkifenbcepicjabOpn
import Derived.WalkKit
import Derived.ProofKit
import Derived.OpenShut
import Derived.ShutString
import Derived.ChangeOld
import Derived.Below
import Derived.SizedLaws
namespace Go.Proofs.Ytkifenbcepicjab.fnExactBestOrder
open Go.ChangeShapes Go.WideShapes Go.ChangeAt Go.RowKit
open Go.Proofs.Ytkifenbcepicjab.Opn Go.Proofs.Ytkifenbcepicjab.PFnExactBestOrder Go.Proofs.YtkifenbcepicjabW.PrintWords
set_option linter.unusedVariables false
theorem own : ownKnob Try.prog.godebug = none := by kernel_rfl
theorem laidOut : laidOutB Try.prog = true := by kernel_rfl
theorem op5 : Opens Try.prog 5 (Kd.int .u8) Opn.U8 := Opens.u8 Try.underlying5
theorem op57 : Opens Try.prog 57 (Kd.slice 5 (Kd.int .u8)) (Opn.Row Opn.U8) := @Opens.slice Try.prog 57 5 (Int) inferInstance (Kd.int .u8) Opn.U8 Try.underlying57 (by kernel_rfl) op5
theorem op22 : Opens Try.prog 22 (Kd.slice 57 (Kd.slice 5 (Kd.int .u8))) (Opn.Row (Opn.Row Opn.U8)) := @Opens.slice Try.prog 22 57 (List Int) inferInstance (Kd.slice 5 (Kd.int .u8)) (Opn.Row Opn.U8) Try.underlying22 (by kernel_rfl) op57
theorem ag24 {H : Type} (enc : TypeId × Value → H) (w : World) (base : Nat) (held : Bool) (fuel : Nat) (cs : List Value) (y : DataW H × List MemPlace) (h : DataW.trod enc Try.prog w base (fun _ => true) held fuel 24 cs = some y) : ∃ x_0 : List (List Int), ∃ (Ax_0 : Option Addr) (cx_0 : Nat), cs = [.slice Ax_0 x_0.length cx_0] ∧ (x_0.length ≤ cx_0 ∧ Kd.C (Kd.slice 5 (Kd.int .u8)) w Ax_0 x_0.length x_0) ∧ (Opn.Row (Opn.Row Opn.U8)) x_0 := by
  obtain ⟨xs, n, rfl, _, hl, hs, hf⟩ := DataW.trod_struct Try.underlying24 h
  replace hl : cs.length = 1 := hl.trans (by kernel_rfl)
  replace hs : xs.length = 1 := hs
  have g0 : DataW.trod enc Try.prog w base (fun _ => true) held n 22 ((cs.drop 0).take (Try.prog.cellsOf 22)) = xs[0]? := hf 0 _ rfl
  have hc0 : Try.prog.cellsOf 22 = 1 := by kernel_rfl
  rw [hc0] at g0
  obtain ⟨x_0, K0, Sx_0⟩ := field_of op22 g0 (by rw [hs]; decide)
  obtain ⟨Ax_0, cx_0, E0, lx_0, Cx_0⟩ := K0
  have Lx_0 := And.intro lx_0 Cx_0
  have hcs : cs = (cs.drop 0).take 1 := by
    have t0 : cs.drop 0 = (cs.drop 0).take 1 := Opn.last 0 1 (by omega)
    rw [← t0, List.drop_zero]
  rw [E0] at hcs
  exact ⟨x_0, Ax_0, cx_0, hcs, Lx_0, Sx_0⟩
theorem op3 : Opens Try.prog 3 (Kd.int .i64) Opn.I64 := Opens.i64 Try.underlying3
theorem ag26 {H : Type} (enc : TypeId × Value → H) (w : World) (base : Nat) (held : Bool) (fuel : Nat) (cs : List Value) (y : DataW H × List MemPlace) (h : DataW.trod enc Try.prog w base (fun _ => true) held fuel 26 cs = some y) : ∃ x_0 : Int, ∃ x_1 : Int, ∃ x_2 : Int, ∃ x_3 : Int, cs = [.int .i64 x_0, .int .i64 x_1, .int .i64 x_2, .int .i64 x_3] ∧ Opn.I64 x_0 ∧ Opn.I64 x_1 ∧ Opn.I64 x_2 ∧ Opn.I64 x_3 := by
  obtain ⟨xs, n, rfl, _, hl, hs, hf⟩ := DataW.trod_struct Try.underlying26 h
  replace hl : cs.length = 4 := hl.trans (by kernel_rfl)
  replace hs : xs.length = 4 := hs
  have g0 : DataW.trod enc Try.prog w base (fun _ => true) held n 3 ((cs.drop 0).take (Try.prog.cellsOf 3)) = xs[0]? := hf 0 _ rfl
  have hc0 : Try.prog.cellsOf 3 = 1 := by kernel_rfl
  rw [hc0] at g0
  obtain ⟨x_0, K0, Sx_0⟩ := field_of op3 g0 (by rw [hs]; decide)
  have E0 : (cs.drop 0).take 1 = [.int .i64 x_0] := K0
  have g1 : DataW.trod enc Try.prog w base (fun _ => true) held n 3 ((cs.drop 1).take (Try.prog.cellsOf 3)) = xs[1]? := hf 1 _ rfl
  have hc1 : Try.prog.cellsOf 3 = 1 := by kernel_rfl
  rw [hc1] at g1
  obtain ⟨x_1, K1, Sx_1⟩ := field_of op3 g1 (by rw [hs]; decide)
  have E1 : (cs.drop 1).take 1 = [.int .i64 x_1] := K1
  have g2 : DataW.trod enc Try.prog w base (fun _ => true) held n 3 ((cs.drop 2).take (Try.prog.cellsOf 3)) = xs[2]? := hf 2 _ rfl
  have hc2 : Try.prog.cellsOf 3 = 1 := by kernel_rfl
  rw [hc2] at g2
  obtain ⟨x_2, K2, Sx_2⟩ := field_of op3 g2 (by rw [hs]; decide)
  have E2 : (cs.drop 2).take 1 = [.int .i64 x_2] := K2
  have g3 : DataW.trod enc Try.prog w base (fun _ => true) held n 3 ((cs.drop 3).take (Try.prog.cellsOf 3)) = xs[3]? := hf 3 _ rfl
  have hc3 : Try.prog.cellsOf 3 = 1 := by kernel_rfl
  rw [hc3] at g3
  obtain ⟨x_3, K3, Sx_3⟩ := field_of op3 g3 (by rw [hs]; decide)
  have E3 : (cs.drop 3).take 1 = [.int .i64 x_3] := K3
  have hcs : cs = (cs.drop 0).take 1 ++ ((cs.drop 1).take 1 ++ ((cs.drop 2).take 1 ++ ((cs.drop 3).take 1))) := by
    have t3 : cs.drop 3 = (cs.drop 3).take 1 := Opn.last 3 1 (by omega)
    have t2 : cs.drop 2 = (cs.drop 2).take 1 ++ ((cs.drop 3).take 1) := by rw [← t3]; exact Opn.part 2 1
    have t1 : cs.drop 1 = (cs.drop 1).take 1 ++ ((cs.drop 2).take 1 ++ ((cs.drop 3).take 1)) := by rw [← t2]; exact Opn.part 1 1
    have t0 : cs.drop 0 = (cs.drop 0).take 1 ++ ((cs.drop 1).take 1 ++ ((cs.drop 2).take 1 ++ ((cs.drop 3).take 1))) := by rw [← t1]; exact Opn.part 0 1
    rw [← t0, List.drop_zero]
  rw [E0, E1, E2, E3] at hcs
  exact ⟨x_0, x_1, x_2, x_3, hcs, Sx_0, Sx_1, Sx_2, Sx_3⟩
theorem op27 : Opens Try.prog 27 (Kd.slice 3 (Kd.int .i64)) (Opn.Row Opn.I64) := @Opens.slice Try.prog 27 3 (Int) inferInstance (Kd.int .i64) Opn.I64 Try.underlying27 (by kernel_rfl) op3
theorem ag29 {H : Type} (enc : TypeId × Value → H) (w : World) (base : Nat) (held : Bool) (fuel : Nat) (cs : List Value) (y : DataW H × List MemPlace) (h : DataW.trod enc Try.prog w base (fun _ => true) held fuel 29 cs = some y) : ∃ x_0_0 : List (List Int), ∃ x_1_0 : Int, ∃ x_1_1 : Int, ∃ x_1_2 : Int, ∃ x_1_3 : Int, ∃ x_2 : Int, ∃ x_3 : List Int, ∃ (Ax_0_0 : Option Addr) (cx_0_0 : Nat), ∃ (Ax_3 : Option Addr) (cx_3 : Nat), cs = [.slice Ax_0_0 x_0_0.length cx_0_0, .int .i64 x_1_0, .int .i64 x_1_1, .int .i64 x_1_2, .int .i64 x_1_3, .int .i64 x_2, .slice Ax_3 x_3.length cx_3] ∧ (x_0_0.length ≤ cx_0_0 ∧ Kd.C (Kd.slice 5 (Kd.int .u8)) w Ax_0_0 x_0_0.length x_0_0) ∧ (x_3.length ≤ cx_3 ∧ Kd.C (Kd.int .i64) w Ax_3 x_3.length x_3) ∧ (Opn.Row (Opn.Row Opn.U8)) x_0_0 ∧ Opn.I64 x_1_0 ∧ Opn.I64 x_1_1 ∧ Opn.I64 x_1_2 ∧ Opn.I64 x_1_3 ∧ Opn.I64 x_2 ∧ (Opn.Row Opn.I64) x_3 := by
  obtain ⟨xs, n, rfl, _, hl, hs, hf⟩ := DataW.trod_struct Try.underlying29 h
  replace hl : cs.length = 7 := hl.trans (by kernel_rfl)
  replace hs : xs.length = 4 := hs
  have g0 : DataW.trod enc Try.prog w base (fun _ => true) held n 24 ((cs.drop 0).take (Try.prog.cellsOf 24)) = xs[0]? := hf 0 _ rfl
  have hc0 : Try.prog.cellsOf 24 = 1 := by kernel_rfl
  rw [hc0] at g0
  obtain ⟨e0, he0⟩ : ∃ z, xs[0]? = some z := ⟨_, List.getElem?_eq_getElem (by rw [hs]; decide)⟩
  rw [he0] at g0
  obtain ⟨x_0_0, Ax_0_0, cx_0_0, E0, Lx_0_0, Sx_0_0⟩ := ag24 enc w base held n _ _ g0
  have g1 : DataW.trod enc Try.prog w base (fun _ => true) held n 26 ((cs.drop 1).take (Try.prog.cellsOf 26)) = xs[1]? := hf 1 _ rfl
  have hc1 : Try.prog.cellsOf 26 = 4 := by kernel_rfl
  rw [hc1] at g1
  obtain ⟨e1, he1⟩ : ∃ z, xs[1]? = some z := ⟨_, List.getElem?_eq_getElem (by rw [hs]; decide)⟩
  rw [he1] at g1
  obtain ⟨x_1_0, x_1_1, x_1_2, x_1_3, E1, Sx_1_0, Sx_1_1, Sx_1_2, Sx_1_3⟩ := ag26 enc w base held n _ _ g1
  have g2 : DataW.trod enc Try.prog w base (fun _ => true) held n 3 ((cs.drop 5).take (Try.prog.cellsOf 3)) = xs[2]? := hf 2 _ rfl
  have hc2 : Try.prog.cellsOf 3 = 1 := by kernel_rfl
  rw [hc2] at g2
  obtain ⟨x_2, K2, Sx_2⟩ := field_of op3 g2 (by rw [hs]; decide)
  have E2 : (cs.drop 5).take 1 = [.int .i64 x_2] := K2
  have g3 : DataW.trod enc Try.prog w base (fun _ => true) held n 27 ((cs.drop 6).take (Try.prog.cellsOf 27)) = xs[3]? := hf 3 _ rfl
  have hc3 : Try.prog.cellsOf 27 = 1 := by kernel_rfl
  rw [hc3] at g3
  obtain ⟨x_3, K3, Sx_3⟩ := field_of op27 g3 (by rw [hs]; decide)
  obtain ⟨Ax_3, cx_3, E3, lx_3, Cx_3⟩ := K3
  have Lx_3 := And.intro lx_3 Cx_3
  have hcs : cs = (cs.drop 0).take 1 ++ ((cs.drop 1).take 4 ++ ((cs.drop 5).take 1 ++ ((cs.drop 6).take 1))) := by
    have t3 : cs.drop 6 = (cs.drop 6).take 1 := Opn.last 6 1 (by omega)
    have t2 : cs.drop 5 = (cs.drop 5).take 1 ++ ((cs.drop 6).take 1) := by rw [← t3]; exact Opn.part 5 1
    have t1 : cs.drop 1 = (cs.drop 1).take 4 ++ ((cs.drop 5).take 1 ++ ((cs.drop 6).take 1)) := by rw [← t2]; exact Opn.part 1 4
    have t0 : cs.drop 0 = (cs.drop 0).take 1 ++ ((cs.drop 1).take 4 ++ ((cs.drop 5).take 1 ++ ((cs.drop 6).take 1))) := by rw [← t1]; exact Opn.part 0 1
    rw [← t0, List.drop_zero]
  rw [E0, E1, E2, E3] at hcs
  exact ⟨x_0_0, x_1_0, x_1_1, x_1_2, x_1_3, x_2, x_3, Ax_0_0, cx_0_0, Ax_3, cx_3, hcs, Lx_0_0, Lx_3, Sx_0_0, Sx_1_0, Sx_1_1, Sx_1_2, Sx_1_3, Sx_2, Sx_3⟩
theorem op97 : Opens Try.prog 97 k97 ok97 := by
  intro H enc w base held fuel cs x hx
  obtain ⟨xs, n, rfl, _, hl, hs, hf⟩ := DataW.trod_struct Try.underlying97 hx
  replace hl : cs.length = 2 := hl.trans (by kernel_rfl)
  replace hs : xs.length = 2 := hs
  have g0 : DataW.trod enc Try.prog w base (fun _ => true) held n 3 ((cs.drop 0).take (Try.prog.cellsOf 3)) = xs[0]? := hf 0 _ rfl
  rw [show Try.prog.cellsOf 3 = 1 from by kernel_rfl] at g0
  obtain ⟨a0, K0, S0⟩ := field_of op3 g0 (by rw [hs]; decide)
  have g1 : DataW.trod enc Try.prog w base (fun _ => true) held n 3 ((cs.drop 1).take (Try.prog.cellsOf 3)) = xs[1]? := hf 1 _ rfl
  rw [show Try.prog.cellsOf 3 = 1 from by kernel_rfl] at g1
  obtain ⟨a1, K1, S1⟩ := field_of op3 g1 (by rw [hs]; decide)
  have K1' : ((Kd.int .i64)).K w a1 (cs.drop 1) := by rw [Opn.last 1 1 (by omega)]; exact K1
  refine ⟨⟨a0, a1⟩, ?_, ⟨S0, S1⟩⟩
  have z : (cs.drop 0) = cs := List.drop_zero
  rw [← z]
  exact ⟨_, _, Opn.part 0 1, K0, K1'⟩
theorem op49 : Opens Try.prog 49 (Kd.slice 97 k97) (Opn.Row ok97) := @Opens.slice Try.prog 49 97 S97 ⟨z97⟩ k97 ok97 Try.underlying49 (by kernel_rfl) op97
set_option maxRecDepth 100000 in
theorem lifted (os : Os) (started : os.Started) (H : Type) (enc : TypeId × Value → H) :
    ReturnsInHanded {} Try.checked os 4 .any (Rows.fnExactBestOrderSpec.pre6 enc Try.prog Try.f4 Rows.fnExactBestOrderRow.domain false) (Rows.fnExactBestOrderSpec.post enc Try.prog Try.f4 false true false false) := by
  refine returnsInHanded_of_change_sized (C := Try.checked) own started (by kernel_rfl) Try.func4
    (ChangeSpec.witness6 (enc := enc) (C := Try.checked) false ⟨#[], #[.agg #[.slice none 0 0, .int .i64 0, .int .i64 0, .int .i64 0, .int .i64 0, .int .i64 0, .slice none 0 0], .slice none 0 0], []⟩ 8 (by kernel_rfl) (by kernel_rfl) (by kernel_rfl) (by kernel_rfl)) ?_
  intro W base args ds gs before hval0 hW hcnd hsz0 _
  have hval : ∀ (j : Nat) t v, Try.f4.params[j]? = some t → args[j]? = some v → Value.okWide Try.prog W .any base t v := hval0
  have hW' := hW
  obtain ⟨p, q, hA0, hV, rfl, hfz, hnd⟩ := hW
  have hA : DataW.TrodAll enc Try.prog W 0 (fun _ => true) true Try.f4.params.toList args.toList ds p := hA0
  rw [Try.params4] at hA hval
  obtain ⟨v0, vs0, d0, ds0, p0, q0, hargs, rfl, rfl, h0, r0⟩ := trodAll_cons hA
  obtain ⟨v1, vs1, d1, ds1, p1, q1, rfl, rfl, rfl, h1, r1⟩ := trodAll_cons r0
  obtain ⟨rfl, rfl, rfl⟩ := trodAll_nil r1
  obtain rfl : args = #[v0, v1] := by cases args; simp_all
  obtain ⟨rfl, rfl⟩ := trodVars_none hV
  have k0 := h0
  have lt0 : ∀ x ∈ p0, x.block < W.heap.size := by obtain ⟨m, hm⟩ := k0; exact DataW.trod_lt m _ _ _ hm
  obtain ⟨cs0, rfl, _⟩ := okWide_struct Try.underlying29 (hval 0 29 v0 rfl rfl)
  obtain ⟨fu0, hf0⟩ := h0
  obtain ⟨l0_0, a0_1, a0_2, a0_3, a0_4, a0_5, l0_6, A0_0, c0_0, A0_6, c0_6, E0, ⟨hc0_0, hr0_0⟩, ⟨hc0_6, hr0_6⟩, S0_0, S0_1, S0_2, S0_3, S0_4, S0_5, S0_6⟩ := ag29 enc W 0 true fu0 _ _ hf0
  obtain rfl : cs0 = #[.slice A0_0 l0_0.length c0_0, .int .i64 a0_1, .int .i64 a0_2, .int .i64 a0_3, .int .i64 a0_4, .int .i64 a0_5, .slice A0_6 l0_6.length c0_6] := by cases cs0; exact congrArg Array.mk E0
  have k1 := h1
  have lt1 : ∀ x ∈ p1, x.block < W.heap.size := by obtain ⟨m, hm⟩ := k1; exact DataW.trod_lt m _ _ _ hm
  obtain ⟨A1, len1, c1, rfl⟩ := okWide_slice Try.underlying49 (hval 1 49 v1 rfl rfl)
  obtain ⟨l1, rfl, hc1, hr1, S1⟩ := top_slice op49 h1
  clear hA0 hval0 hsz0
  obtain ⟨k, hp⟩ := Pure.FnExactBestOrder l0_0 a0_1 a0_2 a0_3 a0_4 a0_5 l0_6 l1 S0_0 S0_1 S0_2 S0_3 S0_4 S0_5 S0_6 S1
  refine (laws_FnExactBestOrder.calls k A0_0 c0_0 l0_0 a0_1 a0_2 a0_3 a0_4 a0_5 A0_6 c0_6 l0_6 A1 c1 l1 true W hr0_0 hc0_0 hr0_6 hc0_6 hr1 hc1 hp).mono fun e W' ⟨he, bel⟩ => ?_
  subst he
  exact ⟨_, rfl, _, _, _, [], _, [], hW', trodAll_mk1 (shut_bool Try.underlying4 _), (trodAll_cons_mk (Below.trod laidOut (by kernel_rfl) (of_decide_eq_true (by kernel_rfl)) k0 bel lt0) (trodAll_cons_mk (Below.trod laidOut (by kernel_rfl) (of_decide_eq_true (by kernel_rfl)) k1 bel lt1) trodAll_mk0)), rfl, bel.frame _, fun h => by cases h⟩
theorem over : Rows.fnExactBestOrderRow.holds Try.pinned (OpenSpec.ofChange Rows.fnExactBestOrderSpec) :=
  OpenClaim.holds_of_wide 4 Try.f4 rfl rfl rfl rfl rfl rfl rfl ⟨rfl, rfl, rfl, rfl, rfl⟩ rfl rfl rfl rfl rfl (by kernel_rfl) Try.func4 (by kernel_rfl)
    (of_decide_eq_true (by kernel_rfl)) (by unfold Func.isWrapper; first | (rw [if_pos (by decide +kernel)]; kernel_rfl) | (rw [if_neg (by decide +kernel)]; exact ⟨rfl, rfl⟩))
    (fun os started H enc _ => lifted os started H enc)
theorem proved : Rows.FnExactBestOrderSaid := over
#print axioms proved
end Go.Proofs.Ytkifenbcepicjab.fnExactBestOrder
namespace Go.Proofs.Ytkifenbcepicjab
/-- The row, under a short name, for the claim. -/
theorem fnExactBestOrder_holds : Rows.FnExactBestOrderSaid := fnExactBestOrder.proved
end Go.Proofs.Ytkifenbcepicjab
