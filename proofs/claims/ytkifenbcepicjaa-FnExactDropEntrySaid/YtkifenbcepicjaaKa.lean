/- What is proved here: a row of one entry is laid. No condition beyond those that each theorem states. Written by this session. -/
import Derived.Test.YtkifenbcepicjaaKv
import Derived.Test.YtkifenbcepicjaaKm
import Derived.Test.YtkifenbcepicjaaLx
import Derived.Great.BuildSlice
namespace Go.Proofs.Ytkifenbcepicjaa.Ky
open Go.RowKit Go.Proofs.YtkifenbcepicjaaW.PrintWords
set_option linter.unusedVariables false
set_option linter.unusedSimpArgs false
/-- A row of one entry is laid. -/
theorem run_build1 {x : En} (h : Key x.key) (W : World) : (Instr.buildSlice 29 1 #[(0, .agg (ec x))]).run Try.prog W = .ok (.slice (some ⟨W.heap.size, 0, none⟩) 1 1) (W.alloc (.cells (ec x) 66)) := by
  obtain ⟨ie, hie, hz⟩ := Option.map_eq_some_iff.1 hEinfo
  have hz1 : ie.zero = some (.agg (ec En0)) := congrArg Prod.fst hz
  have hz2 : ie.size = 20 := congrArg (fun y => y.2.1) hz
  refine run_buildSlice W _ _ 1 _ (ec x) ie (.agg (ec En0)) Try.underlying29 hie hz1 (by rw [hz2]; decide) (by rw [hz2]; decide) ?_
  rw [hz2]
  have hf := Great.fill_whole (s := 20) (by decide) [Value.agg (ec x)] ((Array.range (1 * 20)).map ((Value.agg (ec En0)).cells[· % (Value.agg (ec En0)).cells.size]!)) (fun v hv => by
    obtain rfl : v = .agg (ec x) := by simpa using hv
    exact ec_size h) (by simp)
  have e : ([Value.agg (ec x)].flatMap fun v => v.cells.toList).toArray = ec x := by
    rw [List.flatMap_cons, List.flatMap_nil, List.append_nil]
    rfl
  rw [e] at hf
  exact hf
theorem exec_build1 {x : En} (h : Key x.key) {o : Oper} {e : Operand → Value} (y : Operand) (ho : o.op = .buildSlice 29 1 #[(0, y)]) (hy : e y = .agg (ec x)) (W : World) : (execOp e o).run Try.prog W = .ok (.value (.slice (some ⟨W.heap.size, 0, none⟩) 1 1)) (W.alloc (.cells (ec x).toList.toArray 66)) := by
  have h1 := run_build1 h W
  have e1 : (#[(0, y)] : Array (Nat × Operand)).map (fun (i, x) => (i, e x)) = #[(0, .agg (ec x))] := by simp [hy]
  unfold execOp
  simp only [ho, Sem.run_bind, e1, h1, Result.andThen_ok]
  rfl
end Go.Proofs.Ytkifenbcepicjaa.Ky
