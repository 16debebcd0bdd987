/- What is proved here: a row of the call's own that a step makes longer, among facts in blocks of their own. No condition beyond those that each theorem states. Written by this session. -/
import Derived.Test.YtkifenbcepicjaaKv
import Derived.Test.YtkifenbcepicjaaKm
import Derived.Great.BuildSlice
namespace Go.Proofs.Ytkifenbcepicjaa.Ky
open Go.RowKit Go.Proofs.YtkifenbcepicjaaW.PrintWords
set_option linter.unusedVariables false
set_option linter.unusedSimpArgs false
/-- A row of one entry is laid. -/
theorem run_build1 {x : En} (h : Key x.key) (W : World) : (Instr.buildSlice 29 1 #[(0, .agg (ec x))]).run Try.prog W = .ok (.slice (some ⟨W.heap.size, 0, none⟩) 1 1) (W.alloc (.cells (ec x) 66)) := by
  obtain ⟨ie, hie, hz⟩ := Option.map_eq_some_iff.1 hEinfo
  have hz1 : ie.zero = some (.agg (ec En0)) := congrArg Prod.fst hz
  have hz2 : ie.size = 20 := congrArg (fun y => y.2.1) hz
  refine run_buildSlice W _ _ 1 _ (ec x) ie (.agg (ec En0)) Try.underlying29 hie hz1 (by rw [hz2]; decide) (by rw [hz2]; decide) ?_
  rw [hz2]
  have hf := Great.fill_whole (s := 20) (by decide) [Value.agg (ec x)] ((Array.range (1 * 20)).map ((Value.agg (ec En0)).cells[· % (Value.agg (ec En0)).cells.size]!)) (fun v hv => by
    obtain rfl : v = .agg (ec x) := by simpa using hv
    exact ec_size h) (by simp)
  have e : ([Value.agg (ec x)].flatMap fun v => v.cells.toList).toArray = ec x := by
    rw [List.flatMap_cons, List.flatMap_nil, List.append_nil]
    rfl
  rw [e] at hf
  exact hf
theorem exec_build1 {x : En} (h : Key x.key) {o : Oper} {e : Operand → Value} (y : Operand) (ho : o.op = .buildSlice 29 1 #[(0, y)]) (hy : e y = .agg (ec x)) (W : World) : (execOp e o).run Try.prog W = .ok (.value (.slice (some ⟨W.heap.size, 0, none⟩) 1 1)) (W.alloc (.cells (ec x).toList.toArray 66)) := by
  have h1 := run_build1 h W
  have e1 : (#[(0, y)] : Array (Nat × Operand)).map (fun (i, x) => (i, e x)) = #[(0, .agg (ec x))] := by simp [hy]
  unfold execOp
  simp only [ho, Sem.run_bind, e1, h1, Result.andThen_ok]
  rfl
end Go.Proofs.Ytkifenbcepicjaa.Ky
namespace Go.Proofs.Ytkifenbcepicjaa.Lv
open Go.RowKit Go.Proofs.YtkifenbcepicjaaW.PrintWords
/-- The first fact is a row that grows: in place, or in a new block. -/
theorem Inv.grow {α : Type} {d : Kd α} {e : Nat} {v : Value} {xs : List α} {w W : World} {Ps : List Fact} (h : Inv w W (rowF d e w.heap.size v xs :: Ps)) : ∃ S : Nat → Prop, Kd.R d e W w.heap.size S v xs ∧ (∀ k, S k → w.heap.size ≤ k ∧ k < W.heap.size) ∧
    ∀ (W' : World) (v' : Value) (xs' : List α), Below w.heap.size w W' → Kept W W' S → Kd.R d e W' w.heap.size (fun k => S k ∨ W.heap.size ≤ k) v' xs' → Inv w W' (rowF d e w.heap.size v' xs' :: Ps) := by
  obtain ⟨S, h1, h2, h3⟩ := h.live
  refine ⟨S, h2.now, h1, fun W' v' xs' hb hk hr => ⟨hb, fun k => (S k ∨ W.heap.size ≤ k) ∧ k < W'.heap.size, fun k hk2 => ?_, foot_row (Kd.R_mono (Kd.R_bound hr) (fun k hk3 => ⟨hk3.1, hk3.2.2.1⟩)), ?_⟩⟩
  · rcases hk2.1 with hs | hs
    · exact ⟨(h1 k hs).1, hk2.2⟩
    · exact ⟨Nat.le_trans h.bel.size hs, hk2.2⟩
  · refine (h3.step (fun k hk2 => hk.2 k hk2.1.2 hk2.2)).mono (fun k hk2 => ⟨⟨hk2.1.1, Nat.lt_of_lt_of_le hk2.1.2 hk.1⟩, fun hx => ?_⟩)
    rcases hx.1 with hs | hs
    · exact hk2.2 hs
    · exact Nat.not_lt_of_le hs hk2.1.2
end Go.Proofs.Ytkifenbcepicjaa.Lv
namespace Go.Proofs.Ytkifenbcepicjaa.Fl
open Go.RowKit Go.Proofs.YtkifenbcepicjaaW.PrintWords Go.Proofs.YtkifenbcepicjaaW.PrintLast Go.Proofs.Ytkifenbcepicjaa.Lv Go.Proofs.Ytkifenbcepicjaa.Rg
section
variable {P : Program} {ops : Array Oper} {Q : Exit → Act → World → Prop}
/-- In a region of one order: a row of one is laid, and appended to a row of the call's own. -/
theorem seqAppend {α : Type} {d : Kd α} {e t bytes : Nat} {z : Value} {Ps : List Fact} {v : Value} {xs : List α} {p : α} {cs : List Value} {w W : World} {a : Act} {i1 i2 : Nat} {r : List St} {o1 o2 : Oper} {N1 N2 : Tmp} {s x : Operand} (hi : Inv w W (rowF d e w.heap.size v xs :: Ps))
    (h1 : ops[i1]? = some o1) (hd1 : o1.dst = some N1) (hw1 : Region.wanted o1 (yielded ops a.tmps) = true) (hrun : ∀ W, (execOp a.eval o1).run P W = .ok (.value (.slice (some ⟨W.heap.size, 0, none⟩) 1 1)) (W.alloc (.cells cs.toArray e)))
    (h2 : ops[i2]? = some o2) (hd2 : o2.dst = some N2) (hw2 : ∀ u, Region.wanted o2 (yielded ops (a.put (some N1) u).tmps) = true) (ho2 : o2.op = .call { callee := .builtin .append, args := #[s, x], argTypes := #[t, t] })
    (ht : P.underlying t = some (.slice e)) (hinfo : (P.info? e).map (fun i => (i.zero, i.size, i.bytes)) = some (some z, d.sz, bytes)) (hz : z.cells.size = d.sz) (hs0 : 0 < d.sz) (hb0 : 0 < bytes)
    (hs : ∀ u, (a.put (some N1) u).eval s = v) (hx : ∀ u, (a.put (some N1) u).eval x = u) (hp : ∀ (W : World) (base : Nat), d.M W base (fun _ => False) p cs) (hl : (xs.length + 1) * bytes ≤ 140737488355328)
    (h : ∀ u v1 w1, Inv w w1 (rowF d e w.heap.size v1 (xs ++ [p]) :: Ps) → SeqW P ops Q (fun W => Inv w W Ps) r ((a.put (some N1) u).put (some N2) v1) w1) : SeqW P ops Q (fun W => Inv w W Ps) (.one i1 :: .one i2 :: r) a W := by
  obtain ⟨S, hS, hSb, hgrow⟩ := hi.grow
  refine oneK h1 (fun K hK => ?_)
  rw [if_pos hw1]
  unfold Oper.wp
  rw [hrun, Oper.upon_value, hd1]
  refine hK.out _ _ (hi.tail.below (below_alloc (Below.refl _ _) _)) ?_
  refine oneK h2 (fun K2 hK2 => ?_)
  refine Kd.R_append_step (w0 := w) d w.heap.size (hw2 _) s x t e z bytes ho2 ht hinfo hz hs0 hb0 v xs p cs (fun k => S k ∨ W.heap.size ≤ k) (fun _ => False) (hs _) (hx _) (hp W _) (fun _ hk => hk.elim) (fun k hk => .inr hk) (Kd.R_mono hS (fun k hk => .inl hk)) hi.bel hi.bel.size hl ?_
  intro v1 w1 hr hb hg hblk
  rw [hd2]
  have hI := hgrow w1 v1 (xs ++ [p]) hb (Kept.of_grown hg (Kept.refl W S) (fun k hk => .inl (hS.1 k hk))) hr
  exact hK2.out _ _ hI.tail (h _ v1 w1 hI)
end
end Go.Proofs.Ytkifenbcepicjaa.Fl
