/- What is proved here: a row of the call's own that a step makes longer, among facts in blocks of their own; calls of function values; rows of records. No condition beyond those that each theorem states. Written by this session. -/
import Derived.Test.YtkifenbcepicjabGf
import Derived.Great.BuildSlice
namespace Go.Proofs.Ytkifenbcepicjab.Lv
open Go.RowKit Go.Proofs.YtkifenbcepicjabW.PrintWords
set_option linter.unusedVariables false
set_option linter.unusedSimpArgs false
/-- The first fact is a row that grows: in place, or in a new block. -/
theorem Inv.grow {α : Type} {d : Kd α} {e : Nat} {v : Value} {xs : List α} {w W : World} {Ps : List Fact} (h : Inv w W (rowF d e w.heap.size v xs :: Ps)) : ∃ S : Nat → Prop, Kd.R d e W w.heap.size S v xs ∧ (∀ k, S k → w.heap.size ≤ k ∧ k < W.heap.size) ∧
    ∀ (W' : World) (v' : Value) (xs' : List α), Below w.heap.size w W' → Kept W W' S → Kd.R d e W' w.heap.size (fun k => S k ∨ W.heap.size ≤ k) v' xs' → Inv w W' (rowF d e w.heap.size v' xs' :: Ps) := by
  obtain ⟨S, h1, h2, h3⟩ := h.live
  refine ⟨S, h2.now, h1, fun W' v' xs' hb hk hr => ⟨hb, fun k => (S k ∨ W.heap.size ≤ k) ∧ k < W'.heap.size, fun k hk2 => ?_, foot_row (Kd.R_mono (Kd.R_bound hr) (fun k hk3 => ⟨hk3.1, hk3.2.2.1⟩)), ?_⟩⟩
  · rcases hk2.1 with hs | hs
    · exact ⟨(h1 k hs).1, hk2.2⟩
    · exact ⟨Nat.le_trans h.bel.size hs, hk2.2⟩
  · refine (h3.step (fun k hk2 => hk.2 k hk2.1.2 hk2.2)).mono (fun k hk2 => ⟨⟨hk2.1.1, Nat.lt_of_lt_of_le hk2.1.2 hk.1⟩, fun hx => ?_⟩)
    rcases hx.1 with hs | hs
    · exact hk2.2 hs
    · exact Nat.not_lt_of_le hs hk2.1.2
end Go.Proofs.Ytkifenbcepicjab.Lv
namespace Go.Proofs.Ytkifenbcepicjab.Fl
open Go.RowKit Go.Proofs.YtkifenbcepicjabW.PrintWords Go.Proofs.YtkifenbcepicjabW.PrintLast Go.Proofs.Ytkifenbcepicjab.Lv Go.Proofs.Ytkifenbcepicjab.Rg
set_option linter.unusedVariables false
set_option linter.unusedSimpArgs false
section
variable {P : Program} {ops : Array Oper} {Q : Exit → Act → World → Prop}
variable {w0 : World} {Ps : List Fact} {Fin : List Fact → Act → Prop}
/-- A call of a function value with what it has caught. -/
theorem callL {i : Nat} (N : Option Tmp) {r : List St} {F : List Fact} {a : Act} {o : Oper} {f : FuncId} {xs : Array Operand} {ts : Array TypeId} {x : Operand} (lb : Array Value) (he : ∀ args w, (callFunc f args).run P w = .ok (.enter f args) w) (args : Array Value) (ho : ops[i]? = some o) (hN : o.dst = N)
    (hop : o.op = .call { callee := .value x, args := xs, argTypes := ts }) (hx : a.eval x = .func (.func f) #[] lb) (hw : Region.wanted o (yielded ops a.tmps) = true) (hargs' : xs.toList.map a.eval = args.toList)
    (h : ∀ (E : List Fact) (W : World), (∀ W', Inv w0 W' E → Inv w0 W' Ps) → Inv w0 W (F ++ E) → Calls P f (args ++ lb) W fun e W' => ∃ v F', e = .returned v ∧ Inv w0 W' (F' ++ E) ∧ CW P ops Q w0 Ps Fin r F' (a.put N v)) : CW P ops Q w0 Ps Fin (.one i :: r) F a := by
  subst hN
  have hargs : xs.map a.eval = args := by
    apply Array.toList_inj.1
    rw [Array.toList_map]
    exact hargs'
  intro E W hE hi
  unfold wpOp
  simp only [ho, hw, if_true]
  refine .inl ?_
  unfold Oper.wp
  have hrun : (execOp a.eval o).run P W = .ok (.enter f (args ++ lb)) W := by
    unfold execOp
    simp [hop, resolve, Deferred.ofValue, invoke, hx, hargs, he]
  rw [hrun, Oper.upon_enter]
  refine (h E W hE hi).mono ?_
  rintro e w' ⟨v, F', rfl, hi', hc⟩
  exact ⟨F', hi', hc⟩
/-- A load of one plain cell. -/
theorem run_loadAt_cell {w : World} {b o : Nat} {ty : TypeId} {v : Value} {d : TypeDesc} (hc : w.cell? ⟨b, o, none⟩ = some v) (hu : P.underlying ty = some d) (hd : d.isRow = false) : (Instr.loadAt ty (.pointer (some ⟨b, o, none⟩))).run P w = .ok v w := by
  have hagg : (isAgg ty).run P w = .ok false w := by
    unfold isAgg
    rw [Sem.run_bind, run_underlying hu w]
    cases d <;> simp_all
  have hl : (load ⟨b, o, none⟩).run P w = .ok v w := by
    rw [run_load]
    simp [hc]
  simp only [Instr.loadAt, Instr.sureAddr, Sem.run_bind, Sem.run_pure, Result.andThen_ok, loadVar, hagg, Bool.false_eq_true, if_false, hl]
theorem yieldsIf_load_cell {S : World → Prop} {o : Oper} {a : Act} (hw : Region.wanted o (yielded ops a.tmps) = true) (ty : TypeId) (x : Operand) (ho : o.op = .load ty x) (b off : Nat) (hx : a.eval x = .pointer (some ⟨b, off, none⟩)) {v : Value} {d : TypeDesc} (hS : ∀ w, S w → w.cell? ⟨b, off, none⟩ = some v)
    (hu : P.underlying ty = some d) (hd : d.isRow = false) : YieldsIf P ops S o v a := .inl ⟨hw, fun w hw' => by
  unfold execOp
  simp only [ho, hx, Sem.run_bind, run_loadAt_cell (hS w hw') hu hd, Result.andThen_ok]
  rfl⟩
theorem ldc {a : Act} {o : Oper} (j off : Nat) {g : Nat} {cs : Array Value} {t : TypeId} {d : TypeDesc} {v : Value} (hj : Ps[j]? = some (boxF g cs t)) (hw : Region.wanted o (yielded ops a.tmps) = true) (ty : TypeId) (x : Operand) (ho : o.op = .load ty x)
    (hx : a.eval x = .pointer (some ⟨g, off, none⟩)) (hv : cs[off]? = some v) (hu : P.underlying ty = some d) (hd : d.isRow = false) : YieldsIf P ops (fun W => Inv w0 W Ps) o v a :=
  yieldsIf_load_cell hw ty x ho g off hx (fun W hW => hW.cell j hj off hv) hu hd
theorem ldXc {i : Nat} {r : List St} {F : List Fact} {a : Act} {o : Oper} (N : Option Tmp) (j off : Nat) {g : Nat} {cs : Array Value} {t : TypeId} {d : TypeDesc} {v : Value} (hj : F[j]? = some (boxF g cs t)) (hi2 : ops[i]? = some o) (hN : o.dst = N) (hw : Region.wanted o (yielded ops a.tmps) = true) (ty : TypeId) (x : Operand) (ho : o.op = .load ty x)
    (hx : a.eval x = .pointer (some ⟨g, off, none⟩)) (hv : cs[off]? = some v) (hu : P.underlying ty = some d) (hd : d.isRow = false) (h : CW P ops Q w0 Ps Fin r F (a.put N v)) : CW P ops Q w0 Ps Fin (.one i :: r) F a := by
  subst hN
  intro E W hE hinv
  have hlt : j < F.length := (List.getElem?_eq_some_iff.1 hj).1
  have := yieldsIf_load_cell (P := P) (ops := ops) (S := fun W => Inv w0 W (F ++ E)) hw ty x ho g off hx (fun W hW => hW.cell j (by rw [List.getElem?_append_left hlt]; exact hj) off hv) hu hd
  exact this.wpOp hi2 hinv ⟨F, hinv, h⟩
end
end Go.Proofs.Ytkifenbcepicjab.Fl
namespace Go.Proofs.Ytkifenbcepicjab.Lx
open Go.RowKit Go.Proofs.YtkifenbcepicjabW.PrintWords
set_option linter.unusedVariables false
set_option linter.unusedSimpArgs false
theorem spot_none {w : World} {b o : Nat} {s : Option Nat} {v : Value} (h0 : w.cell? ⟨b, o, s⟩ = some v) : s = none := by
  cases s with
  | none => rfl
  | some s =>
    exfalso
    unfold World.cell? at h0
    dsimp only at h0
    split at h0 <;> simp at h0
/-- What lies in a row of a kind whose cells are told by its elements. -/
theorem row_cells {α : Type} {d : Kd α} {f : α → List Value} (ho : ∀ w x cs, d.K w x cs → cs = f x) (hs : ∀ x, 0 < (f x).length) {w : World} {A : Option Addr} {n : Nat} {xs : List α} (h : d.C w A n xs) (hp : 0 < n) : ∃ b o, A = some ⟨b, o, none⟩ ∧ ∀ i x, xs[i]? = some x → w.rangeAt b (o + i * d.sz) (f x) := by
  obtain ⟨h1, _, h2⟩ := h
  obtain ⟨ad, rfl, h3⟩ := h2 hp
  have hcell : ∀ i x, xs[i]? = some x → ∀ j u, (f x)[j]? = some u → w.cell? (ad.add (i * d.sz + j)) = some u := fun i x hi j u hu => by
    obtain ⟨cs, _, hk, hc⟩ := h3 i x hi
    obtain rfl := ho _ _ _ hk
    exact hc j u hu
  obtain ⟨b, o, s⟩ := ad
  obtain ⟨x, hx⟩ : ∃ x, xs[0]? = some x := ⟨_, List.getElem?_eq_getElem (by omega)⟩
  have hcx := hcell 0 x hx
  obtain ⟨u, hu⟩ : ∃ u, (f x)[0]? = some u := ⟨_, List.getElem?_eq_getElem (hs x)⟩
  obtain rfl := spot_none (show w.cell? ⟨b, o, s⟩ = some u from by have := hcx 0 u hu; rw [Nat.zero_mul, Nat.zero_add] at this; exact this)
  refine ⟨b, o, rfl, fun i x hi j v hj => ?_⟩
  have := hcell i x hi j v hj
  rwa [Go.Addr.add_mid, ← Nat.add_assoc] at this
theorem of_cond {α : Type} {c : Prop} [Decidable c] {x r : α} (h : (if c then some x else none) = some r) : c ∧ x = r := by
  by_cases hc : c
  · rw [if_pos hc] at h; exact ⟨hc, Option.some.inj h⟩
  · rw [if_neg hc] at h; cases h
theorem of_condO {α : Type} {c : Prop} [Decidable c] {x : Option α} {r : α} (h : (if c then x else none) = some r) : c ∧ x = some r := by
  by_cases hc : c
  · rw [if_pos hc] at h; exact ⟨hc, h⟩
  · rw [if_neg hc] at h; cases h
end Go.Proofs.Ytkifenbcepicjab.Lx
