/- What is proved here: when two keys are equal, as Go's '==' tells it. No condition. Written by this session. -/
import Derived.Test.YtkifenbcepicjaaKt
import Derived.ChangeKeysEq
namespace Go.Proofs.Ytkifenbcepicjaa.Ky
open Go.RowKit Go.Proofs.YtkifenbcepicjaaW.PrintWords
set_option linter.unusedVariables false
set_option linter.unusedSimpArgs false
theorem run_part8 {l : List Int} {i : Nat} {x : Int} (h : l[i]? = some x) (w : World) : (part 5 (bs l) i).run Try.prog w = .ok (.int .u8 x) w := by
  have h2 := bs_get h
  simp [part, isAgg, Sem.run_bind, run_underlying Try.underlying5 w, Result.andThen_ok, h2]
theorem eq_items {a b : List Int} (ha : Key a) (hb : Key b) (d : Nat) (w : World) : ∀ (k i : Nat), i + k = 16 → (Op.eqItems (d + 1) 5 1 (bs a) (bs b) (List.range' i k)).run Try.prog w = .ok (decide (a.drop i = b.drop i)) w
  | 0, i, h => by
    rw [List.drop_eq_nil_of_le (by rw [ha]; omega), List.drop_eq_nil_of_le (by rw [hb]; omega)]
    simp [Op.eqItems]
  | k + 1, i, h => by
    have hi : i < a.length := by rw [ha]; omega
    have hj : i < b.length := by rw [hb]; omega
    have p1 := run_part8 (List.getElem?_eq_getElem hi) w
    have p2 := run_part8 (List.getElem?_eq_getElem hj) w
    have p3 := run_equalIn_int (P := Try.prog) w d 5 .u8 .u8 a[i] b[i] Try.underlying5
    have ih := eq_items ha hb d w k (i + 1) (by omega)
    rw [List.range'_succ]
    simp only [Op.eqItems, Sem.run_bind, Nat.mul_one, p1, p2, p3, Result.andThen_ok]
    by_cases e : a[i] = b[i]
    · have hd : decide (a.drop (i + 1) = b.drop (i + 1)) = decide (a.drop i = b.drop i) := decide_eq_decide.mpr ⟨fun h => by rw [List.drop_eq_getElem_cons hi, List.drop_eq_getElem_cons hj, h, e], fun h => by rw [List.drop_eq_getElem_cons hi, List.drop_eq_getElem_cons hj] at h; exact (List.cons.inj h).2⟩
      rw [e]
      simp only [BEq.rfl, Bool.not_true, Bool.false_eq_true, if_false]
      rw [ih, hd]
    · have hd : decide (a.drop i = b.drop i) = false := decide_eq_false fun h => by
        rw [List.drop_eq_getElem_cons hi, List.drop_eq_getElem_cons hj] at h
        exact e (List.cons.inj h).1
      have e2 : (a[i] == b[i]) = false := by simpa using e
      rw [e2, hd]
      simp
theorem run_eqKey {a b : List Int} (ha : Key a) (hb : Key b) (w : World) : (Op.equal 26 (.agg (bs a)) (.agg (bs b))).run Try.prog w = .ok (decide (a = b)) w := by
  have h0 : (Try.prog.info? 5).map (·.size) = some 1 := by kernel_rfl
  obtain ⟨i8, h8, _⟩ := Option.map_eq_some_iff.1 h0
  have hc : Try.prog.cellsOf 5 = 1 := by kernel_rfl
  have h := run_equalIn_array (P := Try.prog) w 9999 (bs a) (bs b) hK h8
  rw [hc, List.range_eq_range'] at h
  have h2 := eq_items ha hb 9998 w 16 0 (by omega)
  rw [List.drop_zero, List.drop_zero] at h2
  exact h.trans h2
end Go.Proofs.Ytkifenbcepicjaa.Ky
namespace Go.Proofs.Ytkifenbcepicjaa.Ky
open Go.RowKit Go.Proofs.YtkifenbcepicjaaW.PrintWords
theorem yields_eqKey {ops : Array Oper} {S : World → Prop} {o : Oper} {act : Act} {a b : List Int} (ha : Key a) (hb : Key b) (hw : Region.wanted o (yielded ops act.tmps) = true) (x y : Operand) (rt : TypeId) (ho : o.op = .binOp .eql 26 x y rt) (hx : act.eval x = .agg (bs a)) (hy : act.eval y = .agg (bs b)) : YieldsIf Try.prog ops S o (.bool (decide (a = b))) act := by
  refine Or.inl ⟨hw, fun w _ => ?_⟩
  unfold execOp
  simp only [ho, hx, hy, Sem.run_bind, binOp]
  go_simp
  rw [run_eqKey ha hb w]
  rfl
theorem yields_eqKeyB {ops : Array Oper} {S : World → Prop} {o : Oper} {act : Act} {a b : List Int} {v : Bool} (hv : decide (a = b) = v) (ha : Key a) (hb : Key b) (hw : Region.wanted o (yielded ops act.tmps) = true) (x y : Operand) (rt : TypeId) (ho : o.op = .binOp .eql 26 x y rt) (hx : act.eval x = .agg (bs a)) (hy : act.eval y = .agg (bs b)) : YieldsIf Try.prog ops S o (.bool v) act := by
  subst hv
  exact yields_eqKey ha hb hw x y rt ho hx hy
/-- The place of the first entry with a key. -/
def findF (key : List Int) : Nat → List En → Int
  | _, [] => -1
  | i, x :: xs => if x.key = key then (i : Int) else findF key (i + 1) xs
end Go.Proofs.Ytkifenbcepicjaa.Ky
namespace Go.Proofs.Ytkifenbcepicjaa.Ky
/-- The halving of a stretch. -/
def halve (l : List En) (cmp : En → Option Int) : Nat → Nat → Nat → Option Nat
  | 0, _, _ => none
  | d + 1, lo, hi => if lo < hi then (l[(lo + hi) / 2]?).bind fun x => (cmp x).bind fun c => if c < 0 then halve l cmp d ((lo + hi) / 2 + 1) hi else halve l cmp d lo ((lo + hi) / 2) else some lo
end Go.Proofs.Ytkifenbcepicjaa.Ky
namespace Go.Proofs.Ytkifenbcepicjaa.Fl
open Go.RowKit Go.Proofs.YtkifenbcepicjaaW.PrintWords Go.Proofs.YtkifenbcepicjaaW.PrintLast Go.Proofs.Ytkifenbcepicjaa.Lv Go.Proofs.Ytkifenbcepicjaa.Rg
section
variable {P : Program} {ops : Array Oper} {Q : Exit → Act → World → Prop} {w0 : World} {Ps : List Fact} {Fin : List Fact → Act → Prop}
/-- A call of a function value. -/
theorem callV {i : Nat} (N : Option Tmp) {r : List St} {F : List Fact} {a : Act} {o : Oper} {f : FuncId} {fn : Func} {xs : Array Operand} {ts : Array TypeId} {x : Operand} (hf : P.funcs[f]? = some fn) (hname : (fn.name == "runtime.NumGoroutine") = false) (hb : fn.body.isSome = true) (args : Array Value) (ho : ops[i]? = some o) (hN : o.dst = N)
    (hop : o.op = .call { callee := .value x, args := xs, argTypes := ts }) (hx : a.eval x = .func (.func f) #[] #[]) (hw : Region.wanted o (yielded ops a.tmps) = true) (hargs' : xs.toList.map a.eval = args.toList)
    (h : ∀ (E : List Fact) (W : World), (∀ W', Inv w0 W' E → Inv w0 W' Ps) → Inv w0 W (F ++ E) → Calls P f args W fun e W' => ∃ v F', e = .returned v ∧ Inv w0 W' (F' ++ E) ∧ CW P ops Q w0 Ps Fin r F' (a.put N v)) : CW P ops Q w0 Ps Fin (.one i :: r) F a := by
  subst hN
  have hargs : xs.map a.eval = args := by
    apply Array.toList_inj.1
    rw [Array.toList_map]
    exact hargs'
  intro E W hE hi
  unfold wpOp
  simp only [ho, hw, if_true]
  refine .inl ?_
  unfold Oper.wp
  have he : ∀ args w, (callFunc f args).run P w = .ok (.enter f args) w := by
    intro args w
    have h1 : fn.name ≠ "runtime.NumGoroutine" := by simpa using hname
    cases hb' : fn.body with
    | none => rw [hb'] at hb; cases hb
    | some c => simp [callFunc, hf, h1, hb']
  have hrun : (execOp a.eval o).run P W = .ok (.enter f args) W := by
    unfold execOp
    simp [hop, resolve, Deferred.ofValue, invoke, hx, hargs, he]
  rw [hrun, Oper.upon_enter]
  refine (h E W hE hi).mono ?_
  rintro e w' ⟨v, F', rfl, hi', hc⟩
  exact ⟨F', hi', hc⟩
end
end Go.Proofs.Ytkifenbcepicjaa.Fl
