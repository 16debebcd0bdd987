/- What is proved here: a region that draws its order is walked in one order, step by step, where what is taken first yields the same in every world that S holds of. No condition beyond those that each theorem states. Written by this session. -/
import Derived.Test.YtkifenbcepicjabProg
import Derived.Below
import Derived.WalkKit
import Derived.Tactics
import Derived.RowKit3
import Derived.Deep.MidRow
import Derived.Deep.Upon
import Derived.Deep.RegionHeld3
import Derived.OrdersHeld
namespace Go.Proofs.Ytkifenbcepicjab.Rg
open Go.RowKit
set_option linter.unusedVariables false
set_option linter.unusedSimpArgs false
inductive St where
  | take (i : Nat)
  | one (i : Nat)
def okSeq (ops : Array Oper) : List St → Array Bool → Bool
  | [], l => Region.ready .any ops l == []
  | .take i :: r, l => Region.free .any ops l i && (Region.ready .any ops l).contains i && okSeq ops r (l.setIfInBounds i true)
  | .one i :: r, l => (Region.ready .any ops l == [i]) && okSeq ops r (l.setIfInBounds i true)
/-- The steps in their order. -/
def SeqW (P : Program) (ops : Array Oper) (Q : Exit → Act → World → Prop) (S : World → Prop) : List St → Act → World → Prop
  | [], a, w => Q .normal a w
  | .take i :: r, a, w => ∃ o v, ops[i]? = some o ∧ YieldsIf P ops S o v a ∧ SeqW P ops Q S r (a.put o.dst v) w
  | .one i :: r, a, w => wpOp P ops Q i (fun a' w' => S w' ∧ SeqW P ops Q S r a' w') a w
section
variable {P : Program} {ops : Array Oper} {Q : Exit → Act → World → Prop} {S : World → Prop}
theorem seq_any (hs : Region.noSelect ops = true) (hQ : ∀ (c : _) (a : Act) (d : Option Tmp) (v : Value) (w : World), Q (.panic c) (a.put d v) w → Q (.panic c) a w) : ∀ (r : List St) (fuel : Nat) (l : Array Bool) (a : Act) (w : World),
    r.length ≤ fuel → okSeq ops r l = true → S w → SeqW P ops Q S r a w → wpAnyH P .any ops Q S fuel l a w
  | [], fuel, l, a, w, _, hok, _, h => wpAnyH_done (by simpa [okSeq] using hok) h fuel
  | .take i :: r, 0, _, _, _, hf, _, _, _ => by simp at hf
  | .take i :: r, fuel + 1, l, a, w, hf, hok, hS, h => by
    obtain ⟨o, v, ho, hy, h⟩ := h
    simp only [okSeq, Bool.and_eq_true] at hok
    exact wpAnyH_take (i := i) ho hs hok.1.1 hok.1.2 (fun c a w => hQ c a _ _ w) hy hS (seq_any hs hQ r fuel _ _ _ (by simpa using hf) hok.2 hS h)
  | .one i :: r, 0, _, _, _, hf, _, _, _ => by simp at hf
  | .one i :: r, fuel + 1, l, a, w, hf, hok, hS, h => by
    simp only [okSeq, Bool.and_eq_true, beq_iff_eq] at hok
    refine wpAnyH_all (rs := [i]) hok.1 (by simp) (fun j hj => ?_)
    obtain rfl : j = i := by simpa using hj
    exact wpOp_mono (fun a' w' hq => ⟨hq.1, seq_any hs hQ r fuel _ _ _ (by simpa using hf) hok.2 hq.1 hq.2⟩) h
def idx : St → Nat
  | .take i => i
  | .one i => i
/-- A region that does not draw: its operations in the order of the text. -/
theorem seq_list : ∀ (r : List St) (a : Act) (w : World), S w → SeqW P ops Q S r a w → wpOps P ops Q (r.map idx) a w
  | [], _, _, _, h => h
  | .take i :: r, a, w, hS, h => by
    obtain ⟨o, v, ho, hy, h⟩ := h
    rw [List.map_cons, wpOps_cons]
    exact hy.wpOp ho hS (seq_list r _ _ hS h)
  | .one i :: r, a, w, hS, h => by
    rw [List.map_cons, wpOps_cons]
    exact wpOp_mono (fun a' w' hq => seq_list r a' w' hq.1 hq.2) h
theorem startL {id : Nat} {a : Act} {w : World} (r : List St) (hr : r.map idx = List.range ops.size) (hS : S w) (h : SeqW P ops Q S r a w) : (Code.region id ops false).wp P Q a w :=
  wp_region (by rw [← hr]; exact seq_list r a w hS h)
theorem panicPut {R : Ending → World → Prop} {fn : Func} (c : _) (a : Act) (d : Option Tmp) (v : Value) (w : World) (h : NoPanic (bodyPost P fn R) (.panic c) (a.put d v) w) : NoPanic (bodyPost P fn R) (.panic c) a w := h
/-- The beginning. -/
theorem start {id : Nat} {a : Act} {w : World} (r : List St) (hm : P.follows .mixedOrders = true) (hs : Region.noSelect ops = true) (hl : r.length ≤ ops.size) (hok : okSeq ops r (Array.replicate ops.size false) = true)
    (hS : S w.drew) (h : SeqW P ops (NoPanic Q) S r a w.drew) : (Code.region id ops true).wp P Q a w :=
  wp_region_noPanic (wp_region_held_drew (S := S) hm hS (fun hS => seq_any hs (fun _ _ _ _ _ h => h) r _ _ _ _ hl hok hS h))
theorem take {i : Nat} (N : Option Tmp) {r : List St} {a : Act} {w : World} {o : Oper} {v : Value} (ho : ops[i]? = some o) (hN : o.dst = N) (hy : YieldsIf P ops S o v a) (h : SeqW P ops Q S r (a.put N v) w) : SeqW P ops Q S (.take i :: r) a w := by
  subst hN
  exact ⟨o, v, ho, hy, h⟩
/-- A call of a Go function. -/
theorem call {i : Nat} (N : Option Tmp) {r : List St} {a : Act} {w : World} {o : Oper} {f : FuncId} {fn : Func} {xs : Array Operand} {ts : Array TypeId} (hf : P.funcs[f]? = some fn) (hname : (fn.name == "runtime.NumGoroutine") = false) (hb : fn.body.isSome = true) (args : Array Value) (ho : ops[i]? = some o) (hN : o.dst = N)
    (hop : o.op = .call { callee := .value (.func f), args := xs, argTypes := ts }) (hw : Region.wanted o (yielded ops a.tmps) = true) (hargs' : xs.toList.map a.eval = args.toList)
    (h : Calls P f args w fun e w' => ∃ v, e = .returned v ∧ S w' ∧ SeqW P ops Q S r (a.put N v) w') : SeqW P ops Q S (.one i :: r) a w := by
  subst hN
  have hargs : xs.map a.eval = args := by
    apply Array.toList_inj.1
    rw [Array.toList_map]
    exact hargs'
  show wpOp P ops Q i _ a w
  unfold wpOp
  simp only [ho, hw, if_true]
  refine .inl ?_
  unfold Oper.wp
  have he : ∀ args w, (callFunc f args).run P w = .ok (.enter f args) w := by
    intro args w
    have h1 : fn.name ≠ "runtime.NumGoroutine" := by simpa using hname
    cases hb' : fn.body with
    | none => rw [hb'] at hb; cases hb
    | some c => simp [callFunc, hf, h1, hb']
  have hrun : (execOp a.eval o).run P w = .ok (.enter f args) w := by
    unfold execOp
    simp [hop, resolve, Deferred.ofValue, invoke, Act.eval, hargs, he]
  rw [hrun, Oper.upon_enter]
  refine h.mono ?_
  rintro e w' ⟨v, rfl, hS, hq⟩
  exact ⟨hS, hq⟩
/-- What is no call, in a step of its own: it yields its value in the world at hand, and is the only one that may come up. -/
theorem step {i : Nat} (N : Option Tmp) {r : List St} {a : Act} {w w' : World} {o : Oper} (v : Value) (ho : ops[i]? = some o) (hN : o.dst = N) (hw : Region.wanted o (yielded ops a.tmps) = true) (hrun : (execOp a.eval o).run P w = .ok (.value v) w') (hS : S w') (h : SeqW P ops Q S r (a.put N v) w') : SeqW P ops Q S (.one i :: r) a w := by
  subst hN
  show wpOp P ops Q i _ a w
  unfold wpOp
  simp only [ho, hw, if_true]
  refine .inl ?_
  unfold Oper.wp
  rw [hrun, Oper.upon_value]
  exact ⟨hS, h⟩
/-- An operation in a step of its own, told by its own rule. -/
theorem oneK {i : Nat} {r : List St} {a : Act} {w : World} {o : Oper} (ho : ops[i]? = some o) (h : ∀ K : Act → World → Prop, Shut (∀ a' w', S w' → SeqW P ops Q S r a' w' → K a' w') → if Region.wanted o (yielded ops a.tmps) = true then Oper.wp P o a w K Q else K (a.put o.dst undef) w) : SeqW P ops Q S (.one i :: r) a w := by
  have h1 := h (fun a' w' => S w' ∧ SeqW P ops Q S r a' w') (show Shut _ from fun a' w' hs hq => ⟨hs, hq⟩)
  show wpOp P ops Q i _ a w
  unfold wpOp
  simp only [ho]
  split
  · rename_i hw
    rw [if_pos hw] at h1
    exact .inl h1
  · rename_i hw
    rw [if_neg hw] at h1
    exact h1
theorem done {a : Act} {w : World} (h : Q .normal a w) : SeqW P ops (NoPanic Q) S [] a w := NoPanic.normal h
theorem doneL {a : Act} {w : World} (h : Q .normal a w) : SeqW P ops Q S [] a w := h
end
end Go.Proofs.Ytkifenbcepicjab.Rg
