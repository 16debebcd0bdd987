/- What is proved here: a region that draws its order, in which new variables may be made at any time between calls that follow one another, is walked once. No condition beyond those that each theorem states. Written by this session. -/
import Derived.Test.YtkifenbcepicjabLv
import Derived.Test.YtkifenbcepicjabRg
import Derived.OrdersHeld
import Derived.Test.YtkifenbcepicjabWTab
namespace Go.Proofs.Ytkifenbcepicjab.Fl
open Go.RowKit Go.Proofs.YtkifenbcepicjabW.PrintWords Go.Proofs.YtkifenbcepicjabW.PrintLast Go.Proofs.Ytkifenbcepicjab.Lv Go.Proofs.Ytkifenbcepicjab.Rg
set_option linter.unusedVariables false
set_option linter.unusedSimpArgs false
theorem z1 {α : Type} {xs : List α} {i : Nat} {a : α} : xs.toArray.setIfInBounds i a = (xs.set i a).toArray := List.setIfInBounds_toArray ..
theorem z2 {α : Type} {x a : α} {xs : List α} : (x :: xs).set 0 a = a :: xs := List.set_cons_zero ..
theorem z3 {α : Type} {x a : α} {xs : List α} {n : Nat} : (x :: xs).set (n + 1) a = x :: xs.set n a := List.set_cons_succ ..
/-- A new variable: its operation, its temporary, what lies in its block at first. -/
structure Var where
  i : Nat
  N : Tmp
  cs : Array Value
  t : TypeId
def left : List Var → List (Option Nat) → List Nat
  | _ :: fs, some _ :: gs => left fs gs
  | f :: fs, none :: gs => f.i :: left fs gs
  | _, _ => []
/-- Live facts in whatever order. -/
theorem live_perm {W : World} {Ps Qs : List Fact} (h : Ps.Perm Qs) : ∀ {U : Nat → Prop}, Live W Ps U → Live W Qs U := by
  induction h with
  | nil => intro U h; exact h
  | cons P _ ih => intro U ⟨S, h1, h2, h3⟩; exact ⟨S, h1, h2, ih h3⟩
  | swap P Q l =>
    intro U ⟨S, h1, h2, S', h4, h5, h6⟩
    exact ⟨S', fun k hk => (h4 k hk).1, h5, S, fun k hk => ⟨h1 k hk, fun hk2 => (h4 k hk2).2 hk⟩, h2, h6.mono (fun k hk => ⟨⟨hk.1.1, hk.2⟩, hk.1.2⟩)⟩
  | trans _ _ ih1 ih2 => intro U h; exact ih2 (ih1 h)
theorem inv_perm {w W : World} {Ps Qs : List Fact} (h : Inv w W Ps) (hp : Ps.Perm Qs) : Inv w W Qs := ⟨h.bel, live_perm hp h.live⟩
theorem inv_drop {w W : World} {Ps : List Fact} : ∀ {N : List Fact}, Inv w W (N ++ Ps) → Inv w W Ps
  | [], h => h
  | _ :: _, h => inv_drop h.tail
section
variable {P : Program} {ops : Array Oper} {Q : Exit → Act → World → Prop}
/-- The steps in their order, the variables' operations at any time. -/
def CW (P : Program) (ops : Array Oper) (Q : Exit → Act → World → Prop) (w0 : World) (Ps : List Fact) (Fin : List Fact → Act → Prop) : List St → List Fact → Act → Prop
  | [], N, a => Fin N a
  | .take i :: r, N, a => ∃ o v, ops[i]? = some o ∧ YieldsIf P ops (fun W => Inv w0 W Ps) o v a ∧ CW P ops Q w0 Ps Fin r N (a.put o.dst v)
  | .one i :: r, N, a => ∀ (E : List Fact) (W : World), (∀ W', Inv w0 W' E → Inv w0 W' Ps) → Inv w0 W (N ++ E) → wpOp P ops Q i (fun a' W' => ∃ N', Inv w0 W' (N' ++ E) ∧ CW P ops Q w0 Ps Fin r N' a') a W
def Makes (P : Program) (ops : Array Oper) (f : Var) : Prop :=
  ∃ o, ops[f.i]? = some o ∧ o.dst = some f.N ∧ (∀ y, Region.wanted o y = true) ∧ ∀ e w, (execOp e o).run P w = .ok (.value (.pointer (some ⟨w.heap.size, 0, none⟩))) (w.alloc (.cells f.cs f.t))
section
variable {w0 : World} {Ps : List Fact} {Fin : List Fact → Act → Prop} {fs : List Var} {rest : List St}
theorem take {i : Nat} (N : Option Tmp) {r : List St} {F : List Fact} {a : Act} {o : Oper} {v : Value} (ho : ops[i]? = some o) (hN : o.dst = N) (hy : YieldsIf P ops (fun W => Inv w0 W Ps) o v a) (h : CW P ops Q w0 Ps Fin r F (a.put N v)) : CW P ops Q w0 Ps Fin (.take i :: r) F a := by
  subst hN
  exact ⟨o, v, ho, hy, h⟩
/-- A call of a Go function. -/
theorem call {i : Nat} (N : Option Tmp) {r : List St} {F : List Fact} {a : Act} {o : Oper} {f : FuncId} {fn : Func} {xs : Array Operand} {ts : Array TypeId} (hf : P.funcs[f]? = some fn) (hname : (fn.name == "runtime.NumGoroutine") = false) (hb : fn.body.isSome = true) (args : Array Value) (ho : ops[i]? = some o) (hN : o.dst = N)
    (hop : o.op = .call { callee := .value (.func f), args := xs, argTypes := ts }) (hw : Region.wanted o (yielded ops a.tmps) = true) (hargs' : xs.toList.map a.eval = args.toList)
    (h : ∀ (E : List Fact) (W : World), (∀ W', Inv w0 W' E → Inv w0 W' Ps) → Inv w0 W (F ++ E) → Calls P f args W fun e W' => ∃ v F', e = .returned v ∧ Inv w0 W' (F' ++ E) ∧ CW P ops Q w0 Ps Fin r F' (a.put N v)) : CW P ops Q w0 Ps Fin (.one i :: r) F a := by
  subst hN
  have hargs : xs.map a.eval = args := by
    apply Array.toList_inj.1
    rw [Array.toList_map]
    exact hargs'
  intro E W hE hi
  unfold wpOp
  simp only [ho, hw, if_true]
  refine .inl ?_
  unfold Oper.wp
  have he : ∀ args w, (callFunc f args).run P w = .ok (.enter f args) w := by
    intro args w
    have h1 : fn.name ≠ "runtime.NumGoroutine" := by simpa using hname
    cases hb' : fn.body with
    | none => rw [hb'] at hb; cases hb
    | some c => simp [callFunc, hf, h1, hb']
  have hrun : (execOp a.eval o).run P W = .ok (.enter f args) W := by
    unfold execOp
    simp [hop, resolve, Deferred.ofValue, invoke, Act.eval, hargs, he]
  rw [hrun, Oper.upon_enter]
  refine (h E W hE hi).mono ?_
  rintro e w' ⟨v, F', rfl, hi', hc⟩
  exact ⟨F', hi', hc⟩
/-- Behind the region. -/
def End (Q : Exit → Act → World → Prop) (w0 : World) (Ps : List Fact) : List Fact → Act → Prop := fun N a => ∀ W, Inv w0 W (N ++ Ps) → Q .normal a W
theorem seq_of : ∀ (r : List St) (N : List Fact) (a : Act) (W : World), CW P ops Q w0 Ps (End Q w0 Ps) r N a → Inv w0 W (N ++ Ps) → SeqW P ops Q (fun W => Inv w0 W Ps) r a W
  | [], _, _, W, h, hi => h W hi
  | .take _ :: r, _, _, _, ⟨o, v, ho, hy, h⟩, hi => ⟨o, v, ho, hy, seq_of r _ _ _ h hi⟩
  | .one _ :: r, _, _, W, h, hi => wpOp_mono (fun a' W' ⟨N', hi', hc⟩ => ⟨inv_drop hi', seq_of r N' a' W' hc hi'⟩) (h Ps W (fun _ h => h) hi)
/-- A region that does not draw. -/
theorem startL {id : Nat} {a : Act} {w : World} (chain : List St) (hr : chain.map idx = List.range ops.size) (hS : Inv w0 w Ps) (h : CW P ops Q w0 Ps (End Q w0 Ps) chain [] a) : (Code.region id ops false).wp P Q a w :=
  Rg.startL chain hr hS (seq_of chain [] a w h hS)
theorem stop {F : List Fact} {a : Act} (h : ∀ W, Inv w0 W (F ++ Ps) → Q .normal a W) : CW P ops Q w0 Ps (End Q w0 Ps) [] F a := h
/-- A variable is made in its turn. -/
theorem var {i : Nat} {N : Tmp} {cs : Array Value} {t : TypeId} {r : List St} {F : List Fact} {a : Act} (hm : Makes P ops ⟨i, N, cs, t⟩) (h : ∀ g : Nat, CW P ops Q w0 Ps Fin r (boxF g cs t :: F) (a.put (some N) (.pointer (some ⟨g, 0, none⟩)))) : CW P ops Q w0 Ps Fin (.one i :: r) F a := by
  intro E W hE hi
  obtain ⟨o, ho, hod, how, hor⟩ := hm
  unfold wpOp
  simp only [ho, how, if_true]
  refine .inl ?_
  unfold Oper.wp
  rw [hor, Oper.upon_value, hod]
  exact ⟨_, hi.box cs t, h W.heap.size⟩
def setAll (cs : Array Value) : Nat → List Value → Array Value
  | _, [] => cs
  | o, v :: r => setAll (cs.setIfInBounds o v) (o + 1) r
theorem setAll_get : ∀ (vs : List Value) (cs : Array Value) (o k : Nat), (setAll cs o vs)[k]? = if o ≤ k ∧ k < o + vs.length ∧ k < cs.size then vs[k - o]? else cs[k]?
  | [], cs, o, k => by rw [if_neg (fun h => by have := h.2.1; have := h.1; simp at *; omega)]; rfl
  | v :: r, cs, o, k => by
    rw [setAll, setAll_get r]
    by_cases h1 : o + 1 ≤ k ∧ k < o + 1 + r.length ∧ k < cs.size
    · rw [if_pos (by rw [Array.size_setIfInBounds]; exact h1), if_pos (by rw [List.length_cons]; omega), show k - o = (k - (o + 1)) + 1 from by omega, List.getElem?_cons_succ]
    · rw [if_neg (by rw [Array.size_setIfInBounds]; exact h1)]
      by_cases h2 : k = o
      · subst h2
        by_cases h3 : k < cs.size
        · rw [if_pos (by rw [List.length_cons]; omega), Array.getElem?_setIfInBounds_self_of_lt h3]; simp
        · rw [if_neg (by omega), Array.getElem?_eq_none (by rw [Array.size_setIfInBounds]; omega), Array.getElem?_eq_none (by omega)]
      · rw [if_neg (by rw [List.length_cons]; omega), Array.getElem?_setIfInBounds_ne (by omega)]
theorem setAll_all (cs cs' : Array Value) (h : cs'.size = cs.size) : setAll cs 0 cs'.toList = cs' := by
  apply Array.ext_getElem?
  intro k
  rw [setAll_get]
  by_cases hk : k < cs.size
  · rw [if_pos (by rw [Array.length_toList]; omega)]; simp
  · rw [if_neg (by omega), Array.getElem?_eq_none (by omega), Array.getElem?_eq_none (by omega)]
theorem blk_setCells {g : Nat} {t : TypeId} : ∀ (vs : List Value) (o : Nat) (w : World) (cs : Array Value), w.heap[g]? = some (.cells cs t (0, 0)) → (w.setCells g o vs).heap[g]? = some (.cells (setAll cs o vs) t (0, 0))
  | [], _, _, _, h => h
  | v :: r, o, w, cs, h => blk_setCells r (o + 1) _ _ (blk_set h o v)
theorem far_setCells {g k : Nat} (hk : k ≠ g) : ∀ (vs : List Value) (o : Nat) (w : World), (w.setCells g o vs).heap[k]? = w.heap[k]?
  | [], _, _ => rfl
  | v :: r, o, w => (far_setCells hk r (o + 1) _).trans (Below.heap_setCell w ⟨g, o, none⟩ v k hk)
theorem size_setCells (g : Nat) : ∀ (vs : List Value) (o : Nat) (w : World), (w.setCells g o vs).heap.size = w.heap.size
  | [], _, _ => rfl
  | v :: r, o, w => (size_setCells g r (o + 1) _).trans (World.size_setCell w _ v)
theorem same_setCells (g : Nat) : ∀ (vs : List Value) (o : Nat) (w : World), (w.setCells g o vs).os = w.os ∧ (w.setCells g o vs).tape = w.tape ∧ (w.setCells g o vs).output = w.output
  | [], _, _ => ⟨rfl, rfl, rfl⟩
  | v :: r, o, w => same_setCells g r (o + 1) (w.setCell ⟨g, o, none⟩ v)
theorem inv_setAll {w W : World} {Ps : List Fact} {g : Nat} {cs cs' : Array Value} {t : TypeId} (h : Inv w W Ps) (i : Nat) (hi : Ps[i]? = some (boxF g cs t)) (hs : cs'.size = cs.size) : Inv w (W.setCells g 0 cs'.toList) (Ps.set i (boxF g cs' t)) := by
  obtain ⟨S, h1, h2, h3⟩ := h.write i hi
  obtain ⟨hg, hb⟩ := h2.now
  obtain ⟨e1, e2, e3⟩ := same_setCells g cs'.toList 0 W
  refine h3 _ _ (h.bel.trans ⟨e1, e2, e3, by rw [size_setCells]; exact Nat.le_refl _, fun k hk => far_setCells (fun e => ?_) _ _ _⟩) ⟨by rw [size_setCells]; exact Nat.le_refl _, fun k _ hn => far_setCells (fun e => hn (by rw [e]; exact hg)) _ _ _⟩ (foot_box hg (by rw [blk_setCells _ 0 W cs hb, setAll_all cs cs' hs]))
  have := (h1 g hg).1
  omega
/-- A store of a whole record into its variable. -/
theorem store {i : Nat} {r : List St} {F F' : List Fact} {a : Act} {o : Oper} (j : Nat) {g : Nat} {cs : Array Value} {t : TypeId} (cs' : Array Value) (hj : F[j]? = some (boxF g cs t)) (hF : F' = F.set j (boxF g cs' t)) (ho : ops[i]? = some o) (hd : o.dst = none) (ty : TypeId) (x y : Operand) (hop : o.op = .store ty x y)
    (hx : a.eval x = .pointer (some ⟨g, 0, none⟩)) (hy : a.eval y = .agg cs') (hw : Region.wanted o (yielded ops a.tmps) = true) (hs : cs'.size = cs.size) (hi : (P.info? ty).map (·.size) = some cs'.size) (h1 : cs'.all (·.oneCell') = true) (h : CW P ops Q w0 Ps Fin r F' a) : CW P ops Q w0 Ps Fin (.one i :: r) F a := by
  intro E W hE hinv
  have hj2 : (F ++ E)[j]? = some (boxF g cs t) := by
    have hlt : j < F.length := (List.getElem?_eq_some_iff.1 hj).1
    rw [List.getElem?_append_left hlt]
    exact hj
  have hblk := hinv.blk j hj2
  unfold wpOp
  simp only [ho, hw, if_true]
  refine .inl (wp_store_mid ty x y hop g 0 cs' hx hy (fun k hk => ?_) hi h1 ?_)
  · rw [Nat.zero_add, blk_cell hblk k]
    exact ⟨by rw [Array.getElem?_eq_getElem (by omega)]; rfl, blk_frozen hblk k⟩
  · rw [hd]
    refine ⟨F', ?_, h⟩
    rw [hF, ← List.set_append_left _ _ (List.getElem?_eq_some_iff.1 hj).1]
    exact inv_setAll hinv j hj2 hs
/-- A load of a whole record. -/
theorem ld {a : Act} {o : Oper} (j : Nat) {g : Nat} {cs : Array Value} {t : TypeId} {d : TypeDesc} (hj : Ps[j]? = some (boxF g cs t)) (hw : Region.wanted o (yielded ops a.tmps) = true) (ty : TypeId) (x : Operand) (ho : o.op = .load ty x)
    (hx : a.eval x = .pointer (some ⟨g, 0, none⟩)) (hu : P.underlying ty = some d) (hd : d.isRow = true) (hi : (P.info? ty).map (·.size) = some cs.size) : YieldsIf P ops (fun W => Inv w0 W Ps) o (.agg cs) a := by
  have := yieldsIf_load_mid (P := P) (ops := ops) (S := fun W => Inv w0 W Ps) hw ty x ho g 0 hx cs.toList d (fun W hW k v hk => by rw [Nat.zero_add]; exact hW.cell j hj k (by simpa using hk)) hu hd (by simpa using hi)
  simpa using this
/-- What a call leaves. -/
theorem keep {r : List St} {F E : List Fact} {a : Act} {N : Option Tmp} {v : Value} {W W' : World} (hi : Inv w0 W (F ++ E)) (hb : Below W.heap.size W W') (h : CW P ops Q w0 Ps Fin r F (a.put N v)) : ∃ v' F', Ending.returned v = .returned v' ∧ Inv w0 W' (F' ++ E) ∧ CW P ops Q w0 Ps Fin r F' (a.put N v') := ⟨v, F, rfl, hi.below hb, h⟩
theorem keepI {r : List St} {F F' E : List Fact} {a : Act} {N : Option Tmp} {v : Value} {W' : World} (hi : Inv w0 W' (F' ++ E)) (h : CW P ops Q w0 Ps Fin r F' (a.put N v)) : ∃ v' F', Ending.returned v = .returned v' ∧ Inv w0 W' (F' ++ E) ∧ CW P ops Q w0 Ps Fin r F' (a.put N v') := ⟨v, F', rfl, hi, h⟩
theorem addR {α : Type} {d : Kd α} {e : Nat} {x : Value} {xs : List α} {r : List St} {F E : List Fact} {a : Act} {N : Option Tmp} {v : Value} {W W' : World} (hi : Inv w0 W (F ++ E)) (hr : Kd.R d e W' W.heap.size (fun _ => True) x xs) (hb : Below W.heap.size W W') (h : CW P ops Q w0 Ps Fin r (rowF d e w0.heap.size x xs :: F) (a.put N v)) : ∃ v' F', Ending.returned v = .returned v' ∧ Inv w0 W' (F' ++ E) ∧ CW P ops Q w0 Ps Fin r F' (a.put N v') := ⟨v, rowF d e w0.heap.size x xs :: F, rfl, hi.row hr hb, h⟩
/-- A region that does not draw, with a call that writes: all facts are at hand. -/
theorem startW {id : Nat} {a : Act} {w : World} {F : List Fact} (chain : List St) (hr : chain.map idx = List.range ops.size) (hS : Inv w0 w F) (h : CW P ops Q w0 [] (End Q w0 []) chain F a) : (Code.region id ops false).wp P Q a w := by
  have h1 : Inv w0 w (F ++ []) := by rw [List.append_nil]; exact hS
  exact Rg.startL chain hr (inv_drop h1) (seq_of chain F a w h h1)
theorem stopW {F : List Fact} {a : Act} (h : ∀ W, Inv w0 W F → Q .normal a W) : CW P ops Q w0 [] (End Q w0 []) [] F a := fun W hi => h W (by rw [List.append_nil] at hi; exact hi)
theorem ldF {i : Nat} {r : List St} {F : List Fact} {a : Act} {o : Oper} (N : Option Tmp) (j : Nat) {g : Nat} {cs : Array Value} {t : TypeId} {d : TypeDesc} (hj : F[j]? = some (boxF g cs t)) (hi2 : ops[i]? = some o) (hN : o.dst = N) (hw : Region.wanted o (yielded ops a.tmps) = true) (ty : TypeId) (x : Operand) (ho : o.op = .load ty x)
    (hx : a.eval x = .pointer (some ⟨g, 0, none⟩)) (hu : P.underlying ty = some d) (hd : d.isRow = true) (hi : (P.info? ty).map (·.size) = some cs.size) (h : CW P ops Q w0 Ps Fin r F (a.put N (.agg cs))) : CW P ops Q w0 Ps Fin (.one i :: r) F a := by
  subst hN
  intro E W hE hinv
  have hlt : j < F.length := (List.getElem?_eq_some_iff.1 hj).1
  have := yieldsIf_load_mid (P := P) (ops := ops) (S := fun W => Inv w0 W (F ++ E)) hw ty x ho g 0 hx cs.toList d (fun W hW k v hk => by rw [Nat.zero_add]; exact hW.cell j (by rw [List.getElem?_append_left hlt]; exact hj) k (by simpa using hk)) hu hd (by simpa using hi)
  exact this.wpOp hi2 hinv ⟨F, hinv, h⟩
/-- A step that does nothing but compute, in a chain. -/
theorem lit {i : Nat} {N : Tmp} {cs : Array Value} {t : TypeId} {n : Nat} {r : List St} {F : List Fact} {a : Act} {o : Oper} (ho : ops[i]? = some o) (hd : o.dst = some N) (hw : Region.wanted o (yielded ops a.tmps) = true)
    (hrun : ∀ w, (execOp a.eval o).run P w = .ok (.value (.slice (some ⟨w.heap.size, 0, none⟩) n n)) (w.alloc (.cells cs t)))
    (h : ∀ g : Nat, CW P ops Q w0 Ps Fin r (boxF g cs t :: F) (a.put (some N) (.slice (some ⟨g, 0, none⟩) n n))) : CW P ops Q w0 Ps Fin (.one i :: r) F a := by
  intro E W hE hi
  unfold wpOp
  simp only [ho, hw, if_true]
  refine .inl ?_
  unfold Oper.wp
  rw [hrun, Oper.upon_value, hd]
  exact ⟨_, hi.box cs t, h W.heap.size⟩
end
end
end Go.Proofs.Ytkifenbcepicjab.Fl
