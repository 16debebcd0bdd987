/- What is proved here: the law FnExactMergeParts: for every input it returns true, and its arguments read as before. No condition beyond those that the text states. Laid by this session's own program. -/
import Derived.Test.YtldkbeccpheckabRows
import Derived.Test.YtldkbeccpheckabQFnExactMergeParts
import Derived.Test.YtldkbeccpheckabPureFnExactMergeParts
import Derived.Test.YtldkbeccpheckabOpn
import Derived.WalkKit
import Derived.ProofKit
import Derived.OpenShut
import Derived.ShutString
import Derived.ChangeOld
import Derived.Below
import Derived.SizedLaws
namespace Go.Proofs.Ytldkbeccpheckab.fnExactMergeParts
open Go.ChangeShapes Go.WideShapes Go.ChangeAt Go.RowKit
open Go.Proofs.Ytldkbeccpheckab.Opn Go.Proofs.Ytldkbeccpheckab.PFnExactMergeParts Go.Proofs.YtldkbeccpheckabW.PrintWords
set_option linter.unusedVariables false
theorem own : ownKnob Try.prog.godebug = none := by kernel_rfl
theorem laidOut : laidOutB Try.prog = true := by kernel_rfl
theorem op5 : Opens Try.prog 5 (Kd.int .u8) Opn.U8 := Opens.u8 Try.underlying5
theorem op81 : Opens Try.prog 81 (Kd.slice 5 (Kd.int .u8)) (Opn.Row Opn.U8) := @Opens.slice Try.prog 81 5 (Int) inferInstance (Kd.int .u8) Opn.U8 Try.underlying81 (by kernel_rfl) op5
theorem op22 : Opens Try.prog 22 (Kd.slice 81 (Kd.slice 5 (Kd.int .u8))) (Opn.Row (Opn.Row Opn.U8)) := @Opens.slice Try.prog 22 81 (List Int) inferInstance (Kd.slice 5 (Kd.int .u8)) (Opn.Row Opn.U8) Try.underlying22 (by kernel_rfl) op81
theorem ag24 {H : Type} (enc : TypeId × Value → H) (w : World) (base : Nat) (held : Bool) (fuel : Nat) (cs : List Value) (y : DataW H × List MemPlace) (h : DataW.trod enc Try.prog w base (fun _ => true) held fuel 24 cs = some y) : ∃ x_0 : List (List Int), ∃ (Ax_0 : Option Addr) (cx_0 : Nat), cs = [.slice Ax_0 x_0.length cx_0] ∧ (x_0.length ≤ cx_0 ∧ Kd.C (Kd.slice 5 (Kd.int .u8)) w Ax_0 x_0.length x_0) ∧ (Opn.Row (Opn.Row Opn.U8)) x_0 := by
  obtain ⟨xs, n, rfl, _, hl, hs, hf⟩ := DataW.trod_struct Try.underlying24 h
  replace hl : cs.length = 1 := hl.trans (by kernel_rfl)
  replace hs : xs.length = 1 := hs
  have g0 : DataW.trod enc Try.prog w base (fun _ => true) held n 22 ((cs.drop 0).take (Try.prog.cellsOf 22)) = xs[0]? := hf 0 _ rfl
  have hc0 : Try.prog.cellsOf 22 = 1 := by kernel_rfl
  rw [hc0] at g0
  obtain ⟨x_0, K0, Sx_0⟩ := field_of op22 g0 (by rw [hs]; decide)
  obtain ⟨Ax_0, cx_0, E0, lx_0, Cx_0⟩ := K0
  have Lx_0 := And.intro lx_0 Cx_0
  have hcs : cs = (cs.drop 0).take 1 := by
    have t0 : cs.drop 0 = (cs.drop 0).take 1 := Opn.last 0 1 (by omega)
    rw [← t0, List.drop_zero]
  rw [E0] at hcs
  exact ⟨x_0, Ax_0, cx_0, hcs, Lx_0, Sx_0⟩
theorem op3 : Opens Try.prog 3 (Kd.int .i64) Opn.I64 := Opens.i64 Try.underlying3
theorem op53 : Opens Try.prog 53 k53 ok53 := by
  intro H enc w base held fuel cs x hx
  obtain ⟨xs, n, rfl, _, hl, hs, hf⟩ := DataW.trod_struct Try.underlying53 hx
  replace hl : cs.length = 4 := hl.trans (by kernel_rfl)
  replace hs : xs.length = 4 := hs
  have g0 : DataW.trod enc Try.prog w base (fun _ => true) held n 3 ((cs.drop 0).take (Try.prog.cellsOf 3)) = xs[0]? := hf 0 _ rfl
  rw [show Try.prog.cellsOf 3 = 1 from by kernel_rfl] at g0
  obtain ⟨a0, K0, S0⟩ := field_of op3 g0 (by rw [hs]; decide)
  have g1 : DataW.trod enc Try.prog w base (fun _ => true) held n 3 ((cs.drop 1).take (Try.prog.cellsOf 3)) = xs[1]? := hf 1 _ rfl
  rw [show Try.prog.cellsOf 3 = 1 from by kernel_rfl] at g1
  obtain ⟨a1, K1, S1⟩ := field_of op3 g1 (by rw [hs]; decide)
  have g2 : DataW.trod enc Try.prog w base (fun _ => true) held n 3 ((cs.drop 2).take (Try.prog.cellsOf 3)) = xs[2]? := hf 2 _ rfl
  rw [show Try.prog.cellsOf 3 = 1 from by kernel_rfl] at g2
  obtain ⟨a2, K2, S2⟩ := field_of op3 g2 (by rw [hs]; decide)
  have g3 : DataW.trod enc Try.prog w base (fun _ => true) held n 3 ((cs.drop 3).take (Try.prog.cellsOf 3)) = xs[3]? := hf 3 _ rfl
  rw [show Try.prog.cellsOf 3 = 1 from by kernel_rfl] at g3
  obtain ⟨a3, K3, S3⟩ := field_of op3 g3 (by rw [hs]; decide)
  have K3' : ((Kd.int .i64)).K w a3 (cs.drop 3) := by rw [Opn.last 3 1 (by omega)]; exact K3
  refine ⟨⟨a0, a1, a2, a3⟩, ?_, ⟨S0, S1, S2, S3⟩⟩
  have z : (cs.drop 0) = cs := List.drop_zero
  rw [← z]
  exact ⟨_, _, Opn.part 0 1, K0, ⟨_, _, Opn.part 1 1, K1, ⟨_, _, Opn.part 2 1, K2, K3'⟩⟩⟩
theorem op25 : Opens Try.prog 25 (Kd.slice 53 k53) (Opn.Row ok53) := @Opens.slice Try.prog 25 53 S53 ⟨z53⟩ k53 ok53 Try.underlying25 (by kernel_rfl) op53
theorem ag27 {H : Type} (enc : TypeId × Value → H) (w : World) (base : Nat) (held : Bool) (fuel : Nat) (cs : List Value) (y : DataW H × List MemPlace) (h : DataW.trod enc Try.prog w base (fun _ => true) held fuel 27 cs = some y) : ∃ x_0 : List (S53), ∃ (Ax_0 : Option Addr) (cx_0 : Nat), cs = [.slice Ax_0 x_0.length cx_0] ∧ (x_0.length ≤ cx_0 ∧ Kd.C k53 w Ax_0 x_0.length x_0) ∧ (Opn.Row ok53) x_0 := by
  obtain ⟨xs, n, rfl, _, hl, hs, hf⟩ := DataW.trod_struct Try.underlying27 h
  replace hl : cs.length = 1 := hl.trans (by kernel_rfl)
  replace hs : xs.length = 1 := hs
  have g0 : DataW.trod enc Try.prog w base (fun _ => true) held n 25 ((cs.drop 0).take (Try.prog.cellsOf 25)) = xs[0]? := hf 0 _ rfl
  have hc0 : Try.prog.cellsOf 25 = 1 := by kernel_rfl
  rw [hc0] at g0
  obtain ⟨x_0, K0, Sx_0⟩ := field_of op25 g0 (by rw [hs]; decide)
  obtain ⟨Ax_0, cx_0, E0, lx_0, Cx_0⟩ := K0
  have Lx_0 := And.intro lx_0 Cx_0
  have hcs : cs = (cs.drop 0).take 1 := by
    have t0 : cs.drop 0 = (cs.drop 0).take 1 := Opn.last 0 1 (by omega)
    rw [← t0, List.drop_zero]
  rw [E0] at hcs
  exact ⟨x_0, Ax_0, cx_0, hcs, Lx_0, Sx_0⟩
set_option maxRecDepth 100000 in
theorem lifted (os : Os) (started : os.Started) (H : Type) (enc : TypeId × Value → H) :
    ReturnsInHanded {} Try.checked os 5 .any (Rows.fnExactMergePartsSpec.pre6 enc Try.prog Try.f5 Rows.fnExactMergePartsRow.domain false) (Rows.fnExactMergePartsSpec.post enc Try.prog Try.f5 false true false false) := by
  refine returnsInHanded_of_change_sized (C := Try.checked) own started (by kernel_rfl) Try.func5
    (ChangeSpec.witness6 (enc := enc) (C := Try.checked) false ⟨#[], #[.agg #[.slice none 0 0], .agg #[.slice none 0 0]], []⟩ 8 (by kernel_rfl) (by kernel_rfl) (by kernel_rfl) (by kernel_rfl)) ?_
  intro W base args ds gs before hval0 hW hcnd hsz0 _
  have hval : ∀ (j : Nat) t v, Try.f5.params[j]? = some t → args[j]? = some v → Value.okWide Try.prog W .any base t v := hval0
  have hW' := hW
  obtain ⟨p, q, hA0, hV, rfl, hfz, hnd⟩ := hW
  have hA : DataW.TrodAll enc Try.prog W 0 (fun _ => true) true Try.f5.params.toList args.toList ds p := hA0
  rw [Try.params5] at hA hval
  obtain ⟨v0, vs0, d0, ds0, p0, q0, hargs, rfl, rfl, h0, r0⟩ := trodAll_cons hA
  obtain ⟨v1, vs1, d1, ds1, p1, q1, rfl, rfl, rfl, h1, r1⟩ := trodAll_cons r0
  obtain ⟨rfl, rfl, rfl⟩ := trodAll_nil r1
  obtain rfl : args = #[v0, v1] := by cases args; simp_all
  obtain ⟨rfl, rfl⟩ := trodVars_none hV
  have k0 := h0
  have lt0 : ∀ x ∈ p0, x.block < W.heap.size := by obtain ⟨m, hm⟩ := k0; exact DataW.trod_lt m _ _ _ hm
  obtain ⟨cs0, rfl, _⟩ := okWide_struct Try.underlying24 (hval 0 24 v0 rfl rfl)
  obtain ⟨fu0, hf0⟩ := h0
  obtain ⟨l0_0, A0_0, c0_0, E0, ⟨hc0_0, hr0_0⟩, S0_0⟩ := ag24 enc W 0 true fu0 _ _ hf0
  obtain rfl : cs0 = #[.slice A0_0 l0_0.length c0_0] := by cases cs0; exact congrArg Array.mk E0
  have k1 := h1
  have lt1 : ∀ x ∈ p1, x.block < W.heap.size := by obtain ⟨m, hm⟩ := k1; exact DataW.trod_lt m _ _ _ hm
  obtain ⟨cs1, rfl, _⟩ := okWide_struct Try.underlying27 (hval 1 27 v1 rfl rfl)
  obtain ⟨fu1, hf1⟩ := h1
  obtain ⟨l1_0, A1_0, c1_0, E1, ⟨hc1_0, hr1_0⟩, S1_0⟩ := ag27 enc W 0 true fu1 _ _ hf1
  obtain rfl : cs1 = #[.slice A1_0 l1_0.length c1_0] := by cases cs1; exact congrArg Array.mk E1
  clear hA0 hval0 hsz0
  obtain ⟨k, hp⟩ := Pure.FnExactMergeParts l0_0 l1_0 S0_0 S1_0
  refine (laws_FnExactMergeParts.calls k A0_0 c0_0 l0_0 A1_0 c1_0 l1_0 true W hr0_0 hc0_0 hr1_0 hc1_0 hp).mono fun e W' ⟨he, bel⟩ => ?_
  subst he
  exact ⟨_, rfl, _, _, _, [], _, [], hW', trodAll_mk1 (shut_bool Try.underlying4 _), (trodAll_cons_mk (Below.trod laidOut (by kernel_rfl) (of_decide_eq_true (by kernel_rfl)) k0 bel lt0) (trodAll_cons_mk (Below.trod laidOut (by kernel_rfl) (of_decide_eq_true (by kernel_rfl)) k1 bel lt1) trodAll_mk0)), rfl, bel.frame _, fun h => by cases h⟩
theorem over : Rows.fnExactMergePartsRow.holds Try.pinned (OpenSpec.ofChange Rows.fnExactMergePartsSpec) :=
  OpenClaim.holds_of_wide 5 Try.f5 rfl rfl rfl rfl rfl rfl rfl ⟨rfl, rfl, rfl, rfl, rfl⟩ rfl rfl rfl rfl rfl (by kernel_rfl) Try.func5 (by kernel_rfl)
    (of_decide_eq_true (by kernel_rfl)) (by unfold Func.isWrapper; first | (rw [if_pos (by decide +kernel)]; kernel_rfl) | (rw [if_neg (by decide +kernel)]; exact ⟨rfl, rfl⟩))
    (fun os started H enc _ => lifted os started H enc)
theorem proved : Rows.FnExactMergePartsSaid := over
#print axioms proved
end Go.Proofs.Ytldkbeccpheckab.fnExactMergeParts
namespace Go.Proofs.Ytldkbeccpheckab
/-- The row, under a short name, for the claim. -/
theorem fnExactMergeParts_holds : Rows.FnExactMergePartsSaid := fnExactMergeParts.proved
end Go.Proofs.Ytldkbeccpheckab
