/- What is proved here: the law FnExactDropEntry: for every input it returns true, and its arguments read as before. No condition beyond those that the text states. Laid by this session's own program. -/
import Derived.Test.YtkifenbcepicjaaRows
import Derived.Test.YtkifenbcepicjaaQFnExactDropEntry
import Derived.Test.YtkifenbcepicjaaPureFnExactDropEntry
import Derived.Test.YtkifenbcepicjaaOpn
import Derived.WalkKit
import Derived.ProofKit
import Derived.OpenShut
import Derived.ShutString
import Derived.ChangeOld
import Derived.Below
import Derived.SizedLaws
namespace Go.Proofs.Ytkifenbcepicjaa.fnExactDropEntry
open Go.ChangeShapes Go.WideShapes Go.ChangeAt Go.RowKit
open Go.Proofs.Ytkifenbcepicjaa.Opn Go.Proofs.Ytkifenbcepicjaa.PFnExactDropEntry Go.Proofs.YtkifenbcepicjaaW.PrintWords
set_option linter.unusedVariables false
theorem own : ownKnob Try.prog.godebug = none := by kernel_rfl
theorem laidOut : laidOutB Try.prog = true := by kernel_rfl
theorem op5 : Opens Try.prog 5 (Kd.int .u8) Opn.U8 := Opens.u8 Try.underlying5
theorem op43 : Opens Try.prog 43 (Kd.slice 5 (Kd.int .u8)) (Opn.Row Opn.U8) := @Opens.slice Try.prog 43 5 (Int) inferInstance (Kd.int .u8) Opn.U8 Try.underlying43 (by kernel_rfl) op5
theorem op22 : Opens Try.prog 22 (Kd.slice 43 (Kd.slice 5 (Kd.int .u8))) (Opn.Row (Opn.Row Opn.U8)) := @Opens.slice Try.prog 22 43 (List Int) inferInstance (Kd.slice 5 (Kd.int .u8)) (Opn.Row Opn.U8) Try.underlying22 (by kernel_rfl) op43
theorem ag24 {H : Type} (enc : TypeId × Value → H) (w : World) (base : Nat) (held : Bool) (fuel : Nat) (cs : List Value) (y : DataW H × List MemPlace) (h : DataW.trod enc Try.prog w base (fun _ => true) held fuel 24 cs = some y) : ∃ x_0 : List (List Int), ∃ (Ax_0 : Option Addr) (cx_0 : Nat), cs = [.slice Ax_0 x_0.length cx_0] ∧ (x_0.length ≤ cx_0 ∧ Kd.C (Kd.slice 5 (Kd.int .u8)) w Ax_0 x_0.length x_0) ∧ (Opn.Row (Opn.Row Opn.U8)) x_0 := by
  obtain ⟨xs, n, rfl, _, hl, hs, hf⟩ := DataW.trod_struct Try.underlying24 h
  replace hl : cs.length = 1 := hl.trans (by kernel_rfl)
  replace hs : xs.length = 1 := hs
  have g0 : DataW.trod enc Try.prog w base (fun _ => true) held n 22 ((cs.drop 0).take (Try.prog.cellsOf 22)) = xs[0]? := hf 0 _ rfl
  have hc0 : Try.prog.cellsOf 22 = 1 := by kernel_rfl
  rw [hc0] at g0
  obtain ⟨x_0, K0, Sx_0⟩ := field_of op22 g0 (by rw [hs]; decide)
  obtain ⟨Ax_0, cx_0, E0, lx_0, Cx_0⟩ := K0
  have Lx_0 := And.intro lx_0 Cx_0
  have hcs : cs = (cs.drop 0).take 1 := by
    have t0 : cs.drop 0 = (cs.drop 0).take 1 := Opn.last 0 1 (by omega)
    rw [← t0, List.drop_zero]
  rw [E0] at hcs
  exact ⟨x_0, Ax_0, cx_0, hcs, Lx_0, Sx_0⟩
theorem op25 : Opens Try.prog 25 (Kd.slice 71 Ky.ke) (Opn.Row Ky.okEn) := Ky.opEnS
set_option maxRecDepth 100000 in
theorem lifted (os : Os) (started : os.Started) (H : Type) (enc : TypeId × Value → H) :
    ReturnsInHanded {} Try.checked os 4 .any (Rows.fnExactDropEntrySpec.pre6 enc Try.prog Try.f4 Rows.fnExactDropEntryRow.domain false) (Rows.fnExactDropEntrySpec.post enc Try.prog Try.f4 false true false false) := by
  refine returnsInHanded_of_change_sized (C := Try.checked) own started (by kernel_rfl) Try.func4
    (ChangeSpec.witness6 (enc := enc) (C := Try.checked) false ⟨#[], #[.agg #[.slice none 0 0], .slice none 0 0, .agg #[.int .u8 0, .int .u8 0, .int .u8 0, .int .u8 0, .int .u8 0, .int .u8 0, .int .u8 0, .int .u8 0, .int .u8 0, .int .u8 0, .int .u8 0, .int .u8 0, .int .u8 0, .int .u8 0, .int .u8 0, .int .u8 0]], []⟩ 8 (by kernel_rfl) (by kernel_rfl) (by kernel_rfl) (by kernel_rfl)) ?_
  intro W base args ds gs before hval0 hW hcnd hsz0 _
  have hval : ∀ (j : Nat) t v, Try.f4.params[j]? = some t → args[j]? = some v → Value.okWide Try.prog W .any base t v := hval0
  have hW' := hW
  obtain ⟨p, q, hA0, hV, rfl, hfz, hnd⟩ := hW
  have hA : DataW.TrodAll enc Try.prog W 0 (fun _ => true) true Try.f4.params.toList args.toList ds p := hA0
  rw [Try.params4] at hA hval
  obtain ⟨v0, vs0, d0, ds0, p0, q0, hargs, rfl, rfl, h0, r0⟩ := trodAll_cons hA
  obtain ⟨v1, vs1, d1, ds1, p1, q1, rfl, rfl, rfl, h1, r1⟩ := trodAll_cons r0
  obtain ⟨v2, vs2, d2, ds2, p2, q2, rfl, rfl, rfl, h2, r2⟩ := trodAll_cons r1
  obtain ⟨rfl, rfl, rfl⟩ := trodAll_nil r2
  obtain rfl : args = #[v0, v1, v2] := by cases args; simp_all
  obtain ⟨rfl, rfl⟩ := trodVars_none hV
  have k0 := h0
  have lt0 : ∀ x ∈ p0, x.block < W.heap.size := by obtain ⟨m, hm⟩ := k0; exact DataW.trod_lt m _ _ _ hm
  obtain ⟨cs0, rfl, _⟩ := okWide_struct Try.underlying24 (hval 0 24 v0 rfl rfl)
  obtain ⟨fu0, hf0⟩ := h0
  obtain ⟨l0_0, A0_0, c0_0, E0, ⟨hc0_0, hr0_0⟩, S0_0⟩ := ag24 enc W 0 true fu0 _ _ hf0
  obtain rfl : cs0 = #[.slice A0_0 l0_0.length c0_0] := by cases cs0; exact congrArg Array.mk E0
  have k1 := h1
  have lt1 : ∀ x ∈ p1, x.block < W.heap.size := by obtain ⟨m, hm⟩ := k1; exact DataW.trod_lt m _ _ _ hm
  obtain ⟨A1, len1, c1, rfl⟩ := okWide_slice Try.underlying25 (hval 1 25 v1 rfl rfl)
  obtain ⟨l1, rfl, hc1, hr1, S1⟩ := top_slice op25 h1
  have k2 := h2
  have lt2 : ∀ x ∈ p2, x.block < W.heap.size := by obtain ⟨m, hm⟩ := k2; exact DataW.trod_lt m _ _ _ hm
  obtain ⟨cs2, rfl, _⟩ := Ky.okWide_array Try.underlying26 (hval 2 26 v2 rfl rfl)
  obtain ⟨a2, hk2, rfl, S2⟩ := Ky.open_key h2
  clear hA0 hval0 hsz0
  obtain ⟨k, hp⟩ := Pure.FnExactDropEntry l0_0 l1 a2 S0_0 S1 hk2 S2
  refine (laws_FnExactDropEntry.calls k A0_0 c0_0 l0_0 A1 c1 l1 a2 true W hr0_0 hc0_0 hr1 hc1 hk2 hp).mono fun e W' ⟨he, bel⟩ => ?_
  subst he
  exact ⟨_, rfl, _, _, _, [], _, [], hW', trodAll_mk1 (shut_bool Try.underlying4 _), (trodAll_cons_mk (Below.trod laidOut (by kernel_rfl) (of_decide_eq_true (by kernel_rfl)) k0 bel lt0) (trodAll_cons_mk (Below.trod laidOut (by kernel_rfl) (of_decide_eq_true (by kernel_rfl)) k1 bel lt1) (trodAll_cons_mk (Below.trod laidOut (by kernel_rfl) (of_decide_eq_true (by kernel_rfl)) k2 bel lt2) trodAll_mk0))), rfl, bel.frame _, fun h => by cases h⟩
theorem over : Rows.fnExactDropEntryRow.holds Try.pinned (OpenSpec.ofChange Rows.fnExactDropEntrySpec) :=
  OpenClaim.holds_of_wide 4 Try.f4 rfl rfl rfl rfl rfl rfl rfl ⟨rfl, rfl, rfl, rfl, rfl⟩ rfl rfl rfl rfl rfl (by kernel_rfl) Try.func4 (by kernel_rfl)
    (of_decide_eq_true (by kernel_rfl)) (by unfold Func.isWrapper; first | (rw [if_pos (by decide +kernel)]; kernel_rfl) | (rw [if_neg (by decide +kernel)]; exact ⟨rfl, rfl⟩))
    (fun os started H enc _ => lifted os started H enc)
theorem proved : Rows.FnExactDropEntrySaid := over
#print axioms proved
end Go.Proofs.Ytkifenbcepicjaa.fnExactDropEntry
namespace Go.Proofs.Ytkifenbcepicjaa
/-- The row, under a short name, for the claim. -/
theorem fnExactDropEntry_holds : Rows.FnExactDropEntrySaid := fnExactDropEntry.proved
end Go.Proofs.Ytkifenbcepicjaa
