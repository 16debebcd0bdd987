/- What is proved here: the law FnExactEncodeFrame: for every input it returns true, and its arguments read as before. No condition beyond those that the text states. Laid by this session's own program. -/
import Derived.Test.YtcanejjkgoaplaaRows
import Derived.Test.YtcanejjkgoaplaaQFnExactEncodeFrame
import Derived.Test.YtcanejjkgoaplaaPureFnExactEncodeFrame
import Derived.Test.YtcanejjkgoaplaaOpn
import Derived.WalkKit
import Derived.ProofKit
import Derived.OpenShut
import Derived.ShutString
import Derived.ChangeOld
import Derived.Below
import Derived.SizedLaws
namespace Go.Proofs.Ytcanejjkgoaplaa.fnExactEncodeFrame
open Go.ChangeShapes Go.WideShapes Go.ChangeAt Go.RowKit
open Go.Proofs.Ytcanejjkgoaplaa.Opn Go.Proofs.Ytcanejjkgoaplaa.PFnExactEncodeFrame Go.Proofs.YtcanejjkgoaplaaW.PrintWords
set_option linter.unusedVariables false
theorem own : ownKnob Try.prog.godebug = none := by kernel_rfl
theorem laidOut : laidOutB Try.prog = true := by kernel_rfl
theorem op5 : Opens Try.prog 5 (Kd.int .u8) Opn.U8 := Opens.u8 Try.underlying5
theorem op29 : Opens Try.prog 29 (Kd.slice 5 (Kd.int .u8)) (Opn.Row Opn.U8) := by
  exact Opens.slice Try.underlying29 (by kernel_rfl) op5
set_option maxRecDepth 100000 in
theorem lifted (os : Os) (started : os.Started) (H : Type) (enc : TypeId × Value → H) :
    ReturnsInHanded {} Try.checked os 6 .any (Rows.fnExactEncodeFrameSpec.pre6 enc Try.prog Try.f6 Rows.fnExactEncodeFrameRow.domain false) (Rows.fnExactEncodeFrameSpec.post enc Try.prog Try.f6 false true false false) := by
  refine returnsInHanded_of_change_sized (C := Try.checked) own started (by kernel_rfl) Try.func6
    (ChangeSpec.witness6 (enc := enc) (C := Try.checked) false ⟨#[], #[.int .u8 0, .slice none 0 0], []⟩ 8 (by kernel_rfl) (by kernel_rfl) (by kernel_rfl) (by kernel_rfl)) ?_
  intro W base args ds gs before hval0 hW hcnd hsz0 _
  have hval : ∀ (j : Nat) t v, Try.f6.params[j]? = some t → args[j]? = some v → Value.okWide Try.prog W .any base t v := hval0
  have hW' := hW
  obtain ⟨p, q, hA0, hV, rfl, hfz, hnd⟩ := hW
  have hA : DataW.TrodAll enc Try.prog W 0 (fun _ => true) true Try.f6.params.toList args.toList ds p := hA0
  rw [Try.params6] at hA hval
  obtain ⟨v0, vs0, d0, ds0, p0, q0, hargs, rfl, rfl, h0, r0⟩ := trodAll_cons hA
  obtain ⟨v1, vs1, d1, ds1, p1, q1, rfl, rfl, rfl, h1, r1⟩ := trodAll_cons r0
  obtain ⟨rfl, rfl, rfl⟩ := trodAll_nil r1
  obtain rfl : args = #[v0, v1] := by cases args; simp_all
  obtain ⟨rfl, rfl⟩ := trodVars_none hV
  obtain ⟨a0, rfl, rfl, rfl, w0⟩ := open_int Try.underlying5 (hval 0 5 v0 rfl rfl) h0
  have S0 : Opn.U8 a0 := bounds_u8 w0
  have k1 := h1
  have lt1 : ∀ x ∈ p1, x.block < W.heap.size := by obtain ⟨m, hm⟩ := k1; exact DataW.trod_lt m _ _ _ hm
  obtain ⟨A1, len1, c1, rfl⟩ := okWide_slice Try.underlying29 (hval 1 29 v1 rfl rfl)
  obtain ⟨l1, rfl, hc1, hr1, S1⟩ := top_slice op29 h1
  clear hA0 hval0 hsz0
  obtain ⟨k, hp⟩ := Pure.FnExactEncodeFrame a0 l1 S0 S1
  refine (laws_FnExactEncodeFrame.calls k a0 A1 c1 l1 true W hr1 hc1 hp).mono fun e W' ⟨he, bel⟩ => ?_
  subst he
  exact ⟨_, rfl, _, _, _, [], _, [], hW', trodAll_mk1 (shut_bool Try.underlying4 _), (trodAll_cons_mk (shut_int Try.underlying5 w0) (trodAll_cons_mk (Below.trod laidOut (by kernel_rfl) (of_decide_eq_true (by kernel_rfl)) k1 bel lt1) trodAll_mk0)), rfl, bel.frame _, fun h => by cases h⟩
theorem over : Rows.fnExactEncodeFrameRow.holds Try.pinned (OpenSpec.ofChange Rows.fnExactEncodeFrameSpec) :=
  OpenClaim.holds_of_wide 6 Try.f6 rfl rfl rfl rfl rfl rfl rfl ⟨rfl, rfl, rfl, rfl, rfl⟩ rfl rfl rfl rfl rfl (by kernel_rfl) Try.func6 (by kernel_rfl)
    (of_decide_eq_true (by kernel_rfl)) (by unfold Func.isWrapper; first | (rw [if_pos (by decide +kernel)]; kernel_rfl) | (rw [if_neg (by decide +kernel)]; exact ⟨rfl, rfl⟩))
    (fun os started H enc _ => lifted os started H enc)
theorem proved : Rows.FnExactEncodeFrameSaid := over
#print axioms proved
end Go.Proofs.Ytcanejjkgoaplaa.fnExactEncodeFrame
namespace Go.Proofs.Ytcanejjkgoaplaa
/-- The row, under a short name, for the claim. -/
theorem fnExactEncodeFrame_holds : Rows.FnExactEncodeFrameSaid := fnExactEncodeFrame.proved
end Go.Proofs.Ytcanejjkgoaplaa
