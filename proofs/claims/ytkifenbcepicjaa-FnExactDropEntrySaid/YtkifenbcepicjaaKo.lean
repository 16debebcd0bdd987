/- What is proved here: what an argument that is a row of entries reads as. No condition. Written by this session. -/
import Derived.Test.YtkifenbcepicjaaKt
import Derived.Test.YtkifenbcepicjaaKr
import Derived.Test.YtkifenbcepicjaaOpn
namespace Go.Proofs.Ytkifenbcepicjaa.Ky
open Go.RowKit Go.ChangeShapes Go.WideShapes Go.Proofs.Ytkifenbcepicjaa.Opn Go.Proofs.YtkifenbcepicjaaW.PrintWords
set_option linter.unusedVariables false
set_option linter.unusedSimpArgs false
def okKey (l : List Int) : Prop := ∀ x ∈ l, 0 ≤ x ∧ x ≤ 255
def okEn (x : En) : Prop := Key x.key ∧ okKey x.key ∧ I64 x.a ∧ I64 x.s ∧ I64 x.l ∧ I64 x.c
theorem opKey : Opens Try.prog 26 (Kd.arr 16 (Kd.int .u8) (by decide)) okKey := by
  intro H enc w base held fuel cs x hx
  obtain ⟨xs, m, _, _, hl, hn, hx⟩ := DataW.trod_array Try.underlying26 hx
  have hc : Try.prog.cellsOf 5 = 1 := by kernel_rfl
  have h16 : Try.prog.cellsOf 26 = 16 := by kernel_rfl
  rw [h16] at hl
  obtain ⟨l, h1, h2, h3⟩ := bytes_of (P := Try.prog) Try.underlying5 hc cs xs (by rw [hl, hn]) (fun i hi => by
    have := hx i (by omega)
    rw [hc, Nat.mul_one] at this
    exact this)
  refine ⟨l, ⟨by rw [h1, hl], ?_⟩, h3⟩
  rw [h2]
  exact Kd.reps_scalar (enc := Value.int .u8) l
theorem opI : Opens Try.prog 3 (Kd.int .i64) I64 := Opens.i64 Try.underlying3
theorem opW : Opens Try.prog 69 (Kd.pair (Kd.int .i64) (Kd.pair (Kd.int .i64) (Kd.pair (Kd.int .i64) (Kd.int .i64)))) (fun x => I64 x.1 ∧ I64 x.2.1 ∧ I64 x.2.2.1 ∧ I64 x.2.2.2) := by
  intro H enc w base held fuel cs x hx
  obtain ⟨xs, n, rfl, _, hl, hs, hf⟩ := DataW.trod_struct Try.underlying69 hx
  replace hl : cs.length = 4 := hl.trans (by kernel_rfl)
  replace hs : xs.length = 4 := hs
  have hc : Try.prog.cellsOf 3 = 1 := by kernel_rfl
  have g0 : DataW.trod enc Try.prog w base (fun _ => true) held n 3 ((cs.drop 0).take (Try.prog.cellsOf 3)) = xs[0]? := hf 0 _ rfl
  have g1 : DataW.trod enc Try.prog w base (fun _ => true) held n 3 ((cs.drop 1).take (Try.prog.cellsOf 3)) = xs[1]? := hf 1 _ rfl
  have g2 : DataW.trod enc Try.prog w base (fun _ => true) held n 3 ((cs.drop 2).take (Try.prog.cellsOf 3)) = xs[2]? := hf 2 _ rfl
  have g3 : DataW.trod enc Try.prog w base (fun _ => true) held n 3 ((cs.drop 3).take (Try.prog.cellsOf 3)) = xs[3]? := hf 3 _ rfl
  rw [hc] at g0 g1 g2 g3
  obtain ⟨a0, K0, S0⟩ := field_of opI g0 (by rw [hs]; decide)
  obtain ⟨a1, K1, S1⟩ := field_of opI g1 (by rw [hs]; decide)
  obtain ⟨a2, K2, S2⟩ := field_of opI g2 (by rw [hs]; decide)
  obtain ⟨a3, K3, S3⟩ := field_of opI g3 (by rw [hs]; decide)
  have K3' : (Kd.int .i64).K w a3 (cs.drop 3) := by rw [Opn.last 3 1 (by omega)]; exact K3
  refine ⟨(a0, a1, a2, a3), ?_, S0, S1, S2, S3⟩
  have z : (cs.drop 0) = cs := List.drop_zero
  rw [← z]
  exact ⟨_, _, Opn.part 0 1, K0, ⟨_, _, Opn.part 1 1, K1, ⟨_, _, Opn.part 2 1, K2, K3'⟩⟩⟩
theorem opEn : Opens Try.prog 71 ke okEn := by
  intro H enc w base held fuel cs x hx
  obtain ⟨xs, n, rfl, _, hl, hs, hf⟩ := DataW.trod_struct Try.underlying71 hx
  replace hl : cs.length = 20 := hl.trans (by kernel_rfl)
  replace hs : xs.length = 2 := hs
  have g0 : DataW.trod enc Try.prog w base (fun _ => true) held n 26 ((cs.drop 0).take (Try.prog.cellsOf 26)) = xs[0]? := hf 0 _ rfl
  have g1 : DataW.trod enc Try.prog w base (fun _ => true) held n 69 ((cs.drop 16).take (Try.prog.cellsOf 69)) = xs[1]? := hf 1 _ rfl
  rw [show Try.prog.cellsOf 26 = 16 from by kernel_rfl] at g0
  rw [show Try.prog.cellsOf 69 = 4 from by kernel_rfl] at g1
  obtain ⟨a0, K0, S0⟩ := field_of opKey g0 (by rw [hs]; decide)
  obtain ⟨a1, K1, S1⟩ := field_of opW g1 (by rw [hs]; decide)
  have K1' : (Kd.pair (Kd.int .i64) (Kd.pair (Kd.int .i64) (Kd.pair (Kd.int .i64) (Kd.int .i64)))).K w a1 (cs.drop 16) := by rw [Opn.last 16 4 (by omega)]; exact K1
  refine ⟨⟨a0, a1.1, a1.2.1, a1.2.2.1, a1.2.2.2⟩, ?_, K0.1, S0, S1.1, S1.2.1, S1.2.2.1, S1.2.2.2⟩
  have z : (cs.drop 0) = cs := List.drop_zero
  rw [← z]
  exact ⟨_, _, Opn.part 0 16, K0, K1'⟩
theorem opEnS : Opens Try.prog 25 (Kd.slice 71 ke) (Opn.Row okEn) := @Opens.slice Try.prog 25 71 En ⟨En0⟩ ke okEn Try.underlying25 (by kernel_rfl) opEn
end Go.Proofs.Ytkifenbcepicjaa.Ky
