/- What is proved here: the law FnExactShrinkCaps: for every input it returns true, and its arguments read as before. No condition beyond those that the text states. Laid by this session's own program. -/
import Derived.Test.YtdojnaghcfhadaaRows
import Derived.Test.YtdojnaghcfhadaaQFnExactShrinkCaps
import Derived.Test.YtdojnaghcfhadaaPureFnExactShrinkCaps
import Derived.Test.YtdojnaghcfhadaaOpn
import Derived.WalkKit
import Derived.ProofKit
import Derived.OpenShut
import Derived.ShutString
import Derived.ChangeOld
import Derived.Below
import Derived.SizedLaws
namespace Go.Proofs.Ytdojnaghcfhadaa.fnExactShrinkCaps
open Go.ChangeShapes Go.WideShapes Go.ChangeAt Go.RowKit
open Go.Proofs.Ytdojnaghcfhadaa.Opn Go.Proofs.Ytdojnaghcfhadaa.PFnExactShrinkCaps Go.Proofs.YtdojnaghcfhadaaW.PrintWords
set_option linter.unusedVariables false
theorem own : ownKnob Try.prog.godebug = none := by kernel_rfl
theorem laidOut : laidOutB Try.prog = true := by kernel_rfl
theorem op3 : Opens Try.prog 3 (Kd.int .i64) Opn.I64 := Opens.i64 Try.underlying3
theorem ag41 {H : Type} (enc : TypeId × Value → H) (w : World) (base : Nat) (held : Bool) (fuel : Nat) (cs : List Value) (y : DataW H × List MemPlace) (h : DataW.trod enc Try.prog w base (fun _ => true) held fuel 41 cs = some y) : ∃ x_0 : Int, ∃ x_1 : Int, ∃ x_2 : Int, cs = [.int .i64 x_0, .int .i64 x_1, .int .i64 x_2] ∧ Opn.I64 x_0 ∧ Opn.I64 x_1 ∧ Opn.I64 x_2 := by
  obtain ⟨xs, n, rfl, _, hl, hs, hf⟩ := DataW.trod_struct Try.underlying41 h
  replace hl : cs.length = 3 := hl.trans (by kernel_rfl)
  replace hs : xs.length = 3 := hs
  have g0 : DataW.trod enc Try.prog w base (fun _ => true) held n 3 ((cs.drop 0).take (Try.prog.cellsOf 3)) = xs[0]? := hf 0 _ rfl
  have hc0 : Try.prog.cellsOf 3 = 1 := by kernel_rfl
  rw [hc0] at g0
  obtain ⟨x_0, K0, Sx_0⟩ := field_of op3 g0 (by rw [hs]; decide)
  have E0 : (cs.drop 0).take 1 = [.int .i64 x_0] := K0
  have g1 : DataW.trod enc Try.prog w base (fun _ => true) held n 3 ((cs.drop 1).take (Try.prog.cellsOf 3)) = xs[1]? := hf 1 _ rfl
  have hc1 : Try.prog.cellsOf 3 = 1 := by kernel_rfl
  rw [hc1] at g1
  obtain ⟨x_1, K1, Sx_1⟩ := field_of op3 g1 (by rw [hs]; decide)
  have E1 : (cs.drop 1).take 1 = [.int .i64 x_1] := K1
  have g2 : DataW.trod enc Try.prog w base (fun _ => true) held n 3 ((cs.drop 2).take (Try.prog.cellsOf 3)) = xs[2]? := hf 2 _ rfl
  have hc2 : Try.prog.cellsOf 3 = 1 := by kernel_rfl
  rw [hc2] at g2
  obtain ⟨x_2, K2, Sx_2⟩ := field_of op3 g2 (by rw [hs]; decide)
  have E2 : (cs.drop 2).take 1 = [.int .i64 x_2] := K2
  have hcs : cs = (cs.drop 0).take 1 ++ ((cs.drop 1).take 1 ++ ((cs.drop 2).take 1)) := by
    have t2 : cs.drop 2 = (cs.drop 2).take 1 := Opn.last 2 1 (by omega)
    have t1 : cs.drop 1 = (cs.drop 1).take 1 ++ ((cs.drop 2).take 1) := by rw [← t2]; exact Opn.part 1 1
    have t0 : cs.drop 0 = (cs.drop 0).take 1 ++ ((cs.drop 1).take 1 ++ ((cs.drop 2).take 1)) := by rw [← t1]; exact Opn.part 0 1
    rw [← t0, List.drop_zero]
  rw [E0, E1, E2] at hcs
  exact ⟨x_0, x_1, x_2, hcs, Sx_0, Sx_1, Sx_2⟩
theorem op42 : Opens Try.prog 42 (Kd.slice 3 (Kd.int .i64)) (Opn.Row Opn.I64) := @Opens.slice Try.prog 42 3 (Int) inferInstance (Kd.int .i64) Opn.I64 Try.underlying42 (by kernel_rfl) op3
set_option maxRecDepth 100000 in
theorem lifted (os : Os) (started : os.Started) (H : Type) (enc : TypeId × Value → H) :
    ReturnsInHanded {} Try.checked os 6 .any (Rows.fnExactShrinkCapsSpec.pre6 enc Try.prog Try.f6 Rows.fnExactShrinkCapsRow.domain false) (Rows.fnExactShrinkCapsSpec.post enc Try.prog Try.f6 false true false false) := by
  refine returnsInHanded_of_change_sized (C := Try.checked) own started (by kernel_rfl) Try.func6
    (ChangeSpec.witness6 (enc := enc) (C := Try.checked) false ⟨#[], #[.agg #[.int .i64 0, .int .i64 0, .int .i64 0], .int .i64 0, .slice none 0 0], []⟩ 8 (by kernel_rfl) (by kernel_rfl) (by kernel_rfl) (by kernel_rfl)) ?_
  intro W base args ds gs before hval0 hW hcnd hsz0 _
  have hval : ∀ (j : Nat) t v, Try.f6.params[j]? = some t → args[j]? = some v → Value.okWide Try.prog W .any base t v := hval0
  have hW' := hW
  obtain ⟨p, q, hA0, hV, rfl, hfz, hnd⟩ := hW
  have hA : DataW.TrodAll enc Try.prog W 0 (fun _ => true) true Try.f6.params.toList args.toList ds p := hA0
  rw [Try.params6] at hA hval
  obtain ⟨v0, vs0, d0, ds0, p0, q0, hargs, rfl, rfl, h0, r0⟩ := trodAll_cons hA
  obtain ⟨v1, vs1, d1, ds1, p1, q1, rfl, rfl, rfl, h1, r1⟩ := trodAll_cons r0
  obtain ⟨v2, vs2, d2, ds2, p2, q2, rfl, rfl, rfl, h2, r2⟩ := trodAll_cons r1
  obtain ⟨rfl, rfl, rfl⟩ := trodAll_nil r2
  obtain rfl : args = #[v0, v1, v2] := by cases args; simp_all
  obtain ⟨rfl, rfl⟩ := trodVars_none hV
  have k0 := h0
  have lt0 : ∀ x ∈ p0, x.block < W.heap.size := by obtain ⟨m, hm⟩ := k0; exact DataW.trod_lt m _ _ _ hm
  obtain ⟨cs0, rfl, _⟩ := okWide_struct Try.underlying41 (hval 0 41 v0 rfl rfl)
  obtain ⟨fu0, hf0⟩ := h0
  obtain ⟨a0_0, a0_1, a0_2, E0, S0_0, S0_1, S0_2⟩ := ag41 enc W 0 true fu0 _ _ hf0
  obtain rfl : cs0 = #[.int .i64 a0_0, .int .i64 a0_1, .int .i64 a0_2] := by cases cs0; exact congrArg Array.mk E0
  obtain ⟨a1, rfl, rfl, rfl, w1⟩ := open_int Try.underlying3 (hval 1 3 v1 rfl rfl) h1
  have S1 : Opn.I64 a1 := bounds_i64 w1
  have k2 := h2
  have lt2 : ∀ x ∈ p2, x.block < W.heap.size := by obtain ⟨m, hm⟩ := k2; exact DataW.trod_lt m _ _ _ hm
  obtain ⟨A2, len2, c2, rfl⟩ := okWide_slice Try.underlying42 (hval 2 42 v2 rfl rfl)
  obtain ⟨l2, rfl, hc2, hr2, S2⟩ := top_slice op42 h2
  clear hA0 hval0 hsz0
  obtain ⟨k, hp⟩ := Pure.FnExactShrinkCaps a0_0 a0_1 a0_2 a1 l2 S0_0 S0_1 S0_2 S1 S2
  refine (laws_FnExactShrinkCaps.calls k a0_0 a0_1 a0_2 a1 A2 c2 l2 true W hr2 hc2 hp).mono fun e W' ⟨he, bel⟩ => ?_
  subst he
  exact ⟨_, rfl, _, _, _, [], _, [], hW', trodAll_mk1 (shut_bool Try.underlying4 _), (trodAll_cons_mk (Below.trod laidOut (by kernel_rfl) (of_decide_eq_true (by kernel_rfl)) k0 bel lt0) (trodAll_cons_mk (shut_int Try.underlying3 w1) (trodAll_cons_mk (Below.trod laidOut (by kernel_rfl) (of_decide_eq_true (by kernel_rfl)) k2 bel lt2) trodAll_mk0))), rfl, bel.frame _, fun h => by cases h⟩
theorem over : Rows.fnExactShrinkCapsRow.holds Try.pinned (OpenSpec.ofChange Rows.fnExactShrinkCapsSpec) :=
  OpenClaim.holds_of_wide 6 Try.f6 rfl rfl rfl rfl rfl rfl rfl ⟨rfl, rfl, rfl, rfl, rfl⟩ rfl rfl rfl rfl rfl (by kernel_rfl) Try.func6 (by kernel_rfl)
    (of_decide_eq_true (by kernel_rfl)) (by unfold Func.isWrapper; first | (rw [if_pos (by decide +kernel)]; kernel_rfl) | (rw [if_neg (by decide +kernel)]; exact ⟨rfl, rfl⟩))
    (fun os started H enc _ => lifted os started H enc)
theorem proved : Rows.FnExactShrinkCapsSaid := over
#print axioms proved
end Go.Proofs.Ytdojnaghcfhadaa.fnExactShrinkCaps
namespace Go.Proofs.Ytdojnaghcfhadaa
/-- The row, under a short name, for the claim. -/
theorem fnExactShrinkCaps_holds : Rows.FnExactShrinkCapsSaid := fnExactShrinkCaps.proved
end Go.Proofs.Ytdojnaghcfhadaa
