/- What is proved here: the law FnExactEditText: for every input it returns true, and its arguments read as before. No condition beyond those that the text states. Laid by this session's own program. -/
import Derived.Test.YtcanejjkgoaplaaRows
import Derived.Test.YtcanejjkgoaplaaQFnExactEditText
import Derived.Test.YtcanejjkgoaplaaPureFnExactEditText
import Derived.Test.YtcanejjkgoaplaaOpn
import Derived.WalkKit
import Derived.ProofKit
import Derived.OpenShut
import Derived.ShutString
import Derived.ChangeOld
import Derived.Below
import Derived.SizedLaws
namespace Go.Proofs.Ytcanejjkgoaplaa.fnExactEditText
open Go.ChangeShapes Go.WideShapes Go.ChangeAt Go.RowKit
open Go.Proofs.Ytcanejjkgoaplaa.Opn Go.Proofs.Ytcanejjkgoaplaa.PFnExactEditText Go.Proofs.YtcanejjkgoaplaaW.PrintWords
set_option linter.unusedVariables false
theorem own : ownKnob Try.prog.godebug = none := by kernel_rfl
theorem laidOut : laidOutB Try.prog = true := by kernel_rfl
theorem op5 : Opens Try.prog 5 (Kd.int .u8) Opn.U8 := Opens.u8 Try.underlying5
theorem op29 : Opens Try.prog 29 (Kd.slice 5 (Kd.int .u8)) (Opn.Row Opn.U8) := @Opens.slice Try.prog 29 5 (Int) inferInstance (Kd.int .u8) Opn.U8 Try.underlying29 (by kernel_rfl) op5
theorem op3 : Opens Try.prog 3 (Kd.int .i64) Opn.I64 := Opens.i64 Try.underlying3
theorem ag37 {H : Type} (enc : TypeId × Value → H) (w : World) (base : Nat) (held : Bool) (fuel : Nat) (cs : List Value) (y : DataW H × List MemPlace) (h : DataW.trod enc Try.prog w base (fun _ => true) held fuel 37 cs = some y) : ∃ x_0 : Int, ∃ x_1 : Int, ∃ x_2 : List Int, ∃ (Ax_2 : Option Addr) (cx_2 : Nat), cs = [.int .i64 x_0, .int .i64 x_1, .slice Ax_2 x_2.length cx_2] ∧ (x_2.length ≤ cx_2 ∧ Kd.C (Kd.int .u8) w Ax_2 x_2.length x_2) ∧ Opn.I64 x_0 ∧ Opn.I64 x_1 ∧ (Opn.Row Opn.U8) x_2 := by
  obtain ⟨xs, n, rfl, _, hl, hs, hf⟩ := DataW.trod_struct Try.underlying37 h
  replace hl : cs.length = 3 := hl.trans (by kernel_rfl)
  replace hs : xs.length = 3 := hs
  have g0 : DataW.trod enc Try.prog w base (fun _ => true) held n 3 ((cs.drop 0).take (Try.prog.cellsOf 3)) = xs[0]? := hf 0 _ rfl
  have hc0 : Try.prog.cellsOf 3 = 1 := by kernel_rfl
  rw [hc0] at g0
  obtain ⟨x_0, K0, Sx_0⟩ := field_of op3 g0 (by rw [hs]; decide)
  have E0 : (cs.drop 0).take 1 = [.int .i64 x_0] := K0
  have g1 : DataW.trod enc Try.prog w base (fun _ => true) held n 3 ((cs.drop 1).take (Try.prog.cellsOf 3)) = xs[1]? := hf 1 _ rfl
  have hc1 : Try.prog.cellsOf 3 = 1 := by kernel_rfl
  rw [hc1] at g1
  obtain ⟨x_1, K1, Sx_1⟩ := field_of op3 g1 (by rw [hs]; decide)
  have E1 : (cs.drop 1).take 1 = [.int .i64 x_1] := K1
  have g2 : DataW.trod enc Try.prog w base (fun _ => true) held n 29 ((cs.drop 2).take (Try.prog.cellsOf 29)) = xs[2]? := hf 2 _ rfl
  have hc2 : Try.prog.cellsOf 29 = 1 := by kernel_rfl
  rw [hc2] at g2
  obtain ⟨x_2, K2, Sx_2⟩ := field_of op29 g2 (by rw [hs]; decide)
  obtain ⟨Ax_2, cx_2, E2, lx_2, Cx_2⟩ := K2
  have Lx_2 := And.intro lx_2 Cx_2
  have hcs : cs = (cs.drop 0).take 1 ++ ((cs.drop 1).take 1 ++ ((cs.drop 2).take 1)) := by
    have t2 : cs.drop 2 = (cs.drop 2).take 1 := Opn.last 2 1 (by omega)
    have t1 : cs.drop 1 = (cs.drop 1).take 1 ++ ((cs.drop 2).take 1) := by rw [← t2]; exact Opn.part 1 1
    have t0 : cs.drop 0 = (cs.drop 0).take 1 ++ ((cs.drop 1).take 1 ++ ((cs.drop 2).take 1)) := by rw [← t1]; exact Opn.part 0 1
    rw [← t0, List.drop_zero]
  rw [E0, E1, E2] at hcs
  exact ⟨x_0, x_1, x_2, Ax_2, cx_2, hcs, Lx_2, Sx_0, Sx_1, Sx_2⟩
set_option maxRecDepth 100000 in
theorem lifted (os : Os) (started : os.Started) (H : Type) (enc : TypeId × Value → H) :
    ReturnsInHanded {} Try.checked os 7 .any (Rows.fnExactEditTextSpec.pre6 enc Try.prog Try.f7 Rows.fnExactEditTextRow.domain false) (Rows.fnExactEditTextSpec.post enc Try.prog Try.f7 false true false false) := by
  refine returnsInHanded_of_change_sized (C := Try.checked) own started (by kernel_rfl) Try.func7
    (ChangeSpec.witness6 (enc := enc) (C := Try.checked) false ⟨#[], #[.slice none 0 0, .agg #[.int .i64 0, .int .i64 0, .slice none 0 0]], []⟩ 8 (by kernel_rfl) (by kernel_rfl) (by kernel_rfl) (by kernel_rfl)) ?_
  intro W base args ds gs before hval0 hW hcnd hsz0 _
  have hval : ∀ (j : Nat) t v, Try.f7.params[j]? = some t → args[j]? = some v → Value.okWide Try.prog W .any base t v := hval0
  have hW' := hW
  obtain ⟨p, q, hA0, hV, rfl, hfz, hnd⟩ := hW
  have hA : DataW.TrodAll enc Try.prog W 0 (fun _ => true) true Try.f7.params.toList args.toList ds p := hA0
  rw [Try.params7] at hA hval
  obtain ⟨v0, vs0, d0, ds0, p0, q0, hargs, rfl, rfl, h0, r0⟩ := trodAll_cons hA
  obtain ⟨v1, vs1, d1, ds1, p1, q1, rfl, rfl, rfl, h1, r1⟩ := trodAll_cons r0
  obtain ⟨rfl, rfl, rfl⟩ := trodAll_nil r1
  obtain rfl : args = #[v0, v1] := by cases args; simp_all
  obtain ⟨rfl, rfl⟩ := trodVars_none hV
  have k0 := h0
  have lt0 : ∀ x ∈ p0, x.block < W.heap.size := by obtain ⟨m, hm⟩ := k0; exact DataW.trod_lt m _ _ _ hm
  obtain ⟨A0, len0, c0, rfl⟩ := okWide_slice Try.underlying29 (hval 0 29 v0 rfl rfl)
  obtain ⟨l0, rfl, hc0, hr0, S0⟩ := top_slice op29 h0
  have k1 := h1
  have lt1 : ∀ x ∈ p1, x.block < W.heap.size := by obtain ⟨m, hm⟩ := k1; exact DataW.trod_lt m _ _ _ hm
  obtain ⟨cs1, rfl, _⟩ := okWide_struct Try.underlying37 (hval 1 37 v1 rfl rfl)
  obtain ⟨fu1, hf1⟩ := h1
  obtain ⟨a1_0, a1_1, l1_2, A1_2, c1_2, E1, ⟨hc1_2, hr1_2⟩, S1_0, S1_1, S1_2⟩ := ag37 enc W 0 true fu1 _ _ hf1
  obtain rfl : cs1 = #[.int .i64 a1_0, .int .i64 a1_1, .slice A1_2 l1_2.length c1_2] := by cases cs1; exact congrArg Array.mk E1
  clear hA0 hval0 hsz0
  obtain ⟨k, hp⟩ := Pure.FnExactEditText l0 a1_0 a1_1 l1_2 S0 S1_0 S1_1 S1_2
  refine (laws_FnExactEditText.calls k A0 c0 l0 a1_0 a1_1 A1_2 c1_2 l1_2 true W hr0 hc0 hr1_2 hc1_2 hp).mono fun e W' ⟨he, bel⟩ => ?_
  subst he
  exact ⟨_, rfl, _, _, _, [], _, [], hW', trodAll_mk1 (shut_bool Try.underlying4 _), (trodAll_cons_mk (Below.trod laidOut (by kernel_rfl) (of_decide_eq_true (by kernel_rfl)) k0 bel lt0) (trodAll_cons_mk (Below.trod laidOut (by kernel_rfl) (of_decide_eq_true (by kernel_rfl)) k1 bel lt1) trodAll_mk0)), rfl, bel.frame _, fun h => by cases h⟩
theorem over : Rows.fnExactEditTextRow.holds Try.pinned (OpenSpec.ofChange Rows.fnExactEditTextSpec) :=
  OpenClaim.holds_of_wide 7 Try.f7 rfl rfl rfl rfl rfl rfl rfl ⟨rfl, rfl, rfl, rfl, rfl⟩ rfl rfl rfl rfl rfl (by kernel_rfl) Try.func7 (by kernel_rfl)
    (of_decide_eq_true (by kernel_rfl)) (by unfold Func.isWrapper; first | (rw [if_pos (by decide +kernel)]; kernel_rfl) | (rw [if_neg (by decide +kernel)]; exact ⟨rfl, rfl⟩))
    (fun os started H enc _ => lifted os started H enc)
theorem proved : Rows.FnExactEditTextSaid := over
#print axioms proved
end Go.Proofs.Ytcanejjkgoaplaa.fnExactEditText
namespace Go.Proofs.Ytcanejjkgoaplaa
/-- The row, under a short name, for the claim. -/
theorem fnExactEditText_holds : Rows.FnExactEditTextSaid := fnExactEditText.proved
end Go.Proofs.Ytcanejjkgoaplaa
