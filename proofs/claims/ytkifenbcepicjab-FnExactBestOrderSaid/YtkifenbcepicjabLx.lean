/- What is proved here: a row of the call's own that a step makes longer, among facts in blocks of their own; calls of function values; rows of records. No condition beyond those that each theorem states. Written by this session. -/
import Derived.Test.YtkifenbcepicjabFl
import Derived.Great.BuildSlice
namespace Go.Proofs.Ytkifenbcepicjab.Lv
open Go.RowKit Go.Proofs.YtkifenbcepicjabW.PrintWords
set_option linter.unusedVariables false
set_option linter.unusedSimpArgs false
/-- The first fact is a row that grows: in place, or in a new block. -/
theorem Inv.grow {α : Type} {d : Kd α} {e : Nat} {v : Value} {xs : List α} {w W : World} {Ps : List Fact} (h : Inv w W (rowF d e w.heap.size v xs :: Ps)) : ∃ S : Nat → Prop, Kd.R d e W w.heap.size S v xs ∧ (∀ k, S k → w.heap.size ≤ k ∧ k < W.heap.size) ∧
    ∀ (W' : World) (v' : Value) (xs' : List α), Below w.heap.size w W' → Kept W W' S → Kd.R d e W' w.heap.size (fun k => S k ∨ W.heap.size ≤ k) v' xs' → Inv w W' (rowF d e w.heap.size v' xs' :: Ps) := by
  obtain ⟨S, h1, h2, h3⟩ := h.live
  refine ⟨S, h2.now, h1, fun W' v' xs' hb hk hr => ⟨hb, fun k => (S k ∨ W.heap.size ≤ k) ∧ k < W'.heap.size, fun k hk2 => ?_, foot_row (Kd.R_mono (Kd.R_bound hr) (fun k hk3 => ⟨hk3.1, hk3.2.2.1⟩)), ?_⟩⟩
  · rcases hk2.1 with hs | hs
    · exact ⟨(h1 k hs).1, hk2.2⟩
    · exact ⟨Nat.le_trans h.bel.size hs, hk2.2⟩
  · refine (h3.step (fun k hk2 => hk.2 k hk2.1.2 hk2.2)).mono (fun k hk2 => ⟨⟨hk2.1.1, Nat.lt_of_lt_of_le hk2.1.2 hk.1⟩, fun hx => ?_⟩)
    rcases hx.1 with hs | hs
    · exact hk2.2 hs
    · exact Nat.not_lt_of_le hs hk2.1.2
/-- Facts that say no more, one by one. -/
def Low : List Fact → List Fact → Prop
  | [], [] => True
  | P :: Ps, Q :: Qs => (∀ (S : Nat → Prop) (W : World), P S W → Q S W) ∧ Low Ps Qs
  | _, _ => False
theorem Live.lower {W : World} : ∀ {Ps Qs : List Fact} {U V : Nat → Prop}, (∀ k, U k → V k) → Low Ps Qs → Live W Ps U → Live W Qs V
  | [], [], _, _, _, _, _ => trivial
  | [], _ :: _, _, _, _, hl, _ => hl.elim
  | _ :: _, [], _, _, _, hl, _ => hl.elim
  | _ :: _, _ :: _, _, _, hv, hl, ⟨S, h1, h2, h3⟩ => ⟨S, fun k hk => hv k (h1 k hk), fun W' hW => hl.1 _ _ (h2 W' hW), Live.lower (fun k hk => ⟨hv k hk.1, hk.2⟩) hl.2 h3⟩
theorem live_append {W : World} : ∀ {Ps Qs : List Fact} {U V : Nat → Prop}, Live W Ps U → Live W Qs V → (∀ k, U k → ¬ V k) → Live W (Ps ++ Qs) (fun k => U k ∨ V k)
  | [], Qs, U, V, _, h2, _ => h2.mono (fun k hk => .inr hk)
  | P :: Ps, Qs, U, V, ⟨S, h1, h2, h3⟩, h4, hd => ⟨S, fun k hk => .inl (h1 k hk), h2, (live_append h3 h4 (fun k hk => hd k hk.1)).mono (fun k hk => by
      rcases hk with hk | hk
      · exact ⟨.inl hk.1, hk.2⟩
      · exact ⟨.inr hk, fun hs => hd k (h1 k hs) hk⟩)⟩
/-- A call tells its facts of the world that it began with. -/
theorem Inv.join {w W W' : World} {Ps Ns Ms : List Fact} (h : Inv w W Ps) (hn : Inv W W' Ns) (hl : Low Ns Ms) : Inv w W' (Ms ++ Ps) := by
  refine ⟨(h.below hn.bel).bel, ?_⟩
  have h1 : Live W' Ms (fun k => W.heap.size ≤ k ∧ k < W'.heap.size) := Live.lower (fun k hk => hk) hl hn.live
  have h2 : Live W' Ps (fun k => w.heap.size ≤ k ∧ k < W.heap.size) := h.live.step (fun k hk => hn.bel.block k hk.2)
  exact (live_append h1 h2 (fun k hk hk2 => Nat.not_lt_of_le hk.1 hk2.2)).mono (fun k hk => by
    rcases hk with hk | hk
    · exact ⟨Nat.le_trans h.bel.size hk.1, hk.2⟩
    · exact ⟨hk.1, Nat.lt_of_lt_of_le hk.2 hn.bel.size⟩)
theorem low_row {α : Type} {d : Kd α} {e b b' : Nat} {v : Value} {xs : List α} (hb : b' ≤ b) : ∀ S W, rowF d e b v xs S W → rowF d e b' v xs S W := fun _ _ h => Kd.R_lower h hb
theorem low_rows {α : Type} {d : Kd α} {e b b' : Nat} {v : Value} {xs : List α} (hb : b' ≤ b) : ∀ S W, rowsF d e b v xs S W → rowsF d e b' v xs S W := fun _ _ h => Kd.S_lower h hb
end Go.Proofs.Ytkifenbcepicjab.Lv
namespace Go.Proofs.Ytkifenbcepicjab.Fl
open Go.RowKit Go.Proofs.YtkifenbcepicjabW.PrintWords Go.Proofs.YtkifenbcepicjabW.PrintLast Go.Proofs.Ytkifenbcepicjab.Lv Go.Proofs.Ytkifenbcepicjab.Rg
set_option linter.unusedVariables false
set_option linter.unusedSimpArgs false
section
variable {P : Program} {ops : Array Oper} {Q : Exit → Act → World → Prop}
/-- In a region of one order: a row of one is laid, and appended to a row of the call's own. -/
theorem seqAppend {α : Type} {d : Kd α} {e t bytes : Nat} {z : Value} {Ps : List Fact} {v : Value} {xs : List α} {p : α} {cs : List Value} {w W : World} {a : Act} {i1 i2 : Nat} {r : List St} {o1 o2 : Oper} {N1 N2 : Tmp} {s x : Operand} (hi : Inv w W (rowF d e w.heap.size v xs :: Ps))
    (h1 : ops[i1]? = some o1) (hd1 : o1.dst = some N1) (hw1 : Region.wanted o1 (yielded ops a.tmps) = true) (hrun : ∀ W, (execOp a.eval o1).run P W = .ok (.value (.slice (some ⟨W.heap.size, 0, none⟩) 1 1)) (W.alloc (.cells cs.toArray e)))
    (h2 : ops[i2]? = some o2) (hd2 : o2.dst = some N2) (hw2 : ∀ u, Region.wanted o2 (yielded ops (a.put (some N1) u).tmps) = true) (ho2 : o2.op = .call { callee := .builtin .append, args := #[s, x], argTypes := #[t, t] })
    (ht : P.underlying t = some (.slice e)) (hinfo : (P.info? e).map (fun i => (i.zero, i.size, i.bytes)) = some (some z, d.sz, bytes)) (hz : z.cells.size = d.sz) (hs0 : 0 < d.sz) (hb0 : 0 < bytes)
    (hs : ∀ u, (a.put (some N1) u).eval s = v) (hx : ∀ u, (a.put (some N1) u).eval x = u) (hp : ∀ (W : World) (base : Nat), d.M W base (fun _ => False) p cs) (hl : (xs.length + 1) * bytes ≤ 140737488355328)
    (h : ∀ u v1 w1, Inv w w1 (rowF d e w.heap.size v1 (xs ++ [p]) :: Ps) → SeqW P ops Q (fun W => Inv w W Ps) r ((a.put (some N1) u).put (some N2) v1) w1) : SeqW P ops Q (fun W => Inv w W Ps) (.one i1 :: .one i2 :: r) a W := by
  obtain ⟨S, hS, hSb, hgrow⟩ := hi.grow
  refine oneK h1 (fun K hK => ?_)
  rw [if_pos hw1]
  unfold Oper.wp
  rw [hrun, Oper.upon_value, hd1]
  refine hK.out _ _ (hi.tail.below (below_alloc (Below.refl _ _) _)) ?_
  refine oneK h2 (fun K2 hK2 => ?_)
  refine Kd.R_append_step (w0 := w) d w.heap.size (hw2 _) s x t e z bytes ho2 ht hinfo hz hs0 hb0 v xs p cs (fun k => S k ∨ W.heap.size ≤ k) (fun _ => False) (hs _) (hx _) (hp W _) (fun _ hk => hk.elim) (fun k hk => .inr hk) (Kd.R_mono hS (fun k hk => .inl hk)) hi.bel hi.bel.size hl ?_
  intro v1 w1 hr hb hg hblk
  rw [hd2]
  have hI := hgrow w1 v1 (xs ++ [p]) hb (Kept.of_grown hg (Kept.refl W S) (fun k hk => .inl (hS.1 k hk))) hr
  exact hK2.out _ _ hI.tail (h _ v1 w1 hI)
variable {w0 : World} {Ps : List Fact} {Fin : List Fact → Act → Prop}
/-- A call of a function value with what it has caught. -/
theorem callL {i : Nat} (N : Option Tmp) {r : List St} {F : List Fact} {a : Act} {o : Oper} {f : FuncId} {xs : Array Operand} {ts : Array TypeId} {x : Operand} (lb : Array Value) (he : ∀ args w, (callFunc f args).run P w = .ok (.enter f args) w) (args : Array Value) (ho : ops[i]? = some o) (hN : o.dst = N)
    (hop : o.op = .call { callee := .value x, args := xs, argTypes := ts }) (hx : a.eval x = .func (.func f) #[] lb) (hw : Region.wanted o (yielded ops a.tmps) = true) (hargs' : xs.toList.map a.eval = args.toList)
    (h : ∀ (E : List Fact) (W : World), (∀ W', Inv w0 W' E → Inv w0 W' Ps) → Inv w0 W (F ++ E) → Calls P f (args ++ lb) W fun e W' => ∃ v F', e = .returned v ∧ Inv w0 W' (F' ++ E) ∧ CW P ops Q w0 Ps Fin r F' (a.put N v)) : CW P ops Q w0 Ps Fin (.one i :: r) F a := by
  subst hN
  have hargs : xs.map a.eval = args := by
    apply Array.toList_inj.1
    rw [Array.toList_map]
    exact hargs'
  intro E W hE hi
  unfold wpOp
  simp only [ho, hw, if_true]
  refine .inl ?_
  unfold Oper.wp
  have hrun : (execOp a.eval o).run P W = .ok (.enter f (args ++ lb)) W := by
    unfold execOp
    simp [hop, resolve, Deferred.ofValue, invoke, hx, hargs, he]
  rw [hrun, Oper.upon_enter]
  refine (h E W hE hi).mono ?_
  rintro e w' ⟨v, F', rfl, hi', hc⟩
  exact ⟨F', hi', hc⟩
/-- A load of one plain cell. -/
theorem run_loadAt_cell {w : World} {b o : Nat} {ty : TypeId} {v : Value} {d : TypeDesc} (hc : w.cell? ⟨b, o, none⟩ = some v) (hu : P.underlying ty = some d) (hd : d.isRow = false) : (Instr.loadAt ty (.pointer (some ⟨b, o, none⟩))).run P w = .ok v w := by
  have hagg : (isAgg ty).run P w = .ok false w := by
    unfold isAgg
    rw [Sem.run_bind, run_underlying hu w]
    cases d <;> simp_all
  have hl : (load ⟨b, o, none⟩).run P w = .ok v w := by
    rw [run_load]
    simp [hc]
  simp only [Instr.loadAt, Instr.sureAddr, Sem.run_bind, Sem.run_pure, Result.andThen_ok, loadVar, hagg, Bool.false_eq_true, if_false, hl]
theorem yieldsIf_load_cell {S : World → Prop} {o : Oper} {a : Act} (hw : Region.wanted o (yielded ops a.tmps) = true) (ty : TypeId) (x : Operand) (ho : o.op = .load ty x) (b off : Nat) (hx : a.eval x = .pointer (some ⟨b, off, none⟩)) {v : Value} {d : TypeDesc} (hS : ∀ w, S w → w.cell? ⟨b, off, none⟩ = some v)
    (hu : P.underlying ty = some d) (hd : d.isRow = false) : YieldsIf P ops S o v a := .inl ⟨hw, fun w hw' => by
  unfold execOp
  simp only [ho, hx, Sem.run_bind, run_loadAt_cell (hS w hw') hu hd, Result.andThen_ok]
  rfl⟩
theorem ldc {a : Act} {o : Oper} (j off : Nat) {g : Nat} {cs : Array Value} {t : TypeId} {d : TypeDesc} {v : Value} (hj : Ps[j]? = some (boxF g cs t)) (hw : Region.wanted o (yielded ops a.tmps) = true) (ty : TypeId) (x : Operand) (ho : o.op = .load ty x)
    (hx : a.eval x = .pointer (some ⟨g, off, none⟩)) (hv : cs[off]? = some v) (hu : P.underlying ty = some d) (hd : d.isRow = false) : YieldsIf P ops (fun W => Inv w0 W Ps) o v a :=
  yieldsIf_load_cell hw ty x ho g off hx (fun W hW => hW.cell j hj off hv) hu hd
/-- A load of a part of a variable. -/
theorem ldXP {i : Nat} {r : List St} {F : List Fact} {a : Act} {o : Oper} (N : Option Tmp) (j off : Nat) {g : Nat} {cs : Array Value} {t : TypeId} {d : TypeDesc} (sub : Array Value) (hj : F[j]? = some (boxF g cs t)) (hi2 : ops[i]? = some o) (hN : o.dst = N) (hw : Region.wanted o (yielded ops a.tmps) = true) (ty : TypeId) (x : Operand) (ho : o.op = .load ty x)
    (hx : a.eval x = .pointer (some ⟨g, off, none⟩)) (hs : (cs.toList.drop off).take sub.size = sub.toList) (hu : P.underlying ty = some d) (hd : d.isRow = true) (hi : (P.info? ty).map (·.size) = some sub.size) (h : CW P ops Q w0 Ps Fin r F (a.put N (.agg sub))) : CW P ops Q w0 Ps Fin (.one i :: r) F a := by
  subst hN
  intro E W hE hinv
  have hlt : j < F.length := (List.getElem?_eq_some_iff.1 hj).1
  have := yieldsIf_load_mid (P := P) (ops := ops) (S := fun W => Inv w0 W (F ++ E)) hw ty x ho g off hx sub.toList d (fun W hW k v hk => hW.cell j (by rw [List.getElem?_append_left hlt]; exact hj) (off + k) (by
    rw [← hs] at hk
    rw [List.getElem?_take] at hk
    split at hk
    · rw [List.getElem?_drop] at hk
      simpa using hk
    · cases hk)) hu hd (by simpa using hi)
  exact this.wpOp hi2 hinv ⟨F, hinv, h⟩
theorem ldXc {i : Nat} {r : List St} {F : List Fact} {a : Act} {o : Oper} (N : Option Tmp) (j off : Nat) {g : Nat} {cs : Array Value} {t : TypeId} {d : TypeDesc} {v : Value} (hj : F[j]? = some (boxF g cs t)) (hi2 : ops[i]? = some o) (hN : o.dst = N) (hw : Region.wanted o (yielded ops a.tmps) = true) (ty : TypeId) (x : Operand) (ho : o.op = .load ty x)
    (hx : a.eval x = .pointer (some ⟨g, off, none⟩)) (hv : cs[off]? = some v) (hu : P.underlying ty = some d) (hd : d.isRow = false) (h : CW P ops Q w0 Ps Fin r F (a.put N v)) : CW P ops Q w0 Ps Fin (.one i :: r) F a := by
  subst hN
  intro E W hE hinv
  have hlt : j < F.length := (List.getElem?_eq_some_iff.1 hj).1
  have := yieldsIf_load_cell (P := P) (ops := ops) (S := fun W => Inv w0 W (F ++ E)) hw ty x ho g off hx (fun W hW => hW.cell j (by rw [List.getElem?_append_left hlt]; exact hj) off hv) hu hd
  exact this.wpOp hi2 hinv ⟨F, hinv, h⟩
/-- A call that leaves a row of rows and a row, of other types. -/
theorem addSR {α β : Type} {d : Kd α} {d2 : Kd β} {e e2 : Nat} {x y : Value} {xs : List α} {ys : List β} {ok ok2 : Nat → Prop} {r : List St} {F E : List Fact} {a : Act} {N : Option Tmp} {v : Value} {W W' : World} (hne : ∀ q ∈ e :: d.E, q ∉ e2 :: d2.E) (hi : Inv w0 W (F ++ E)) (h1 : Kd.S d e W' W.heap.size ok x xs) (h2 : Kd.R d2 e2 W' W.heap.size ok2 y ys) (hb : Below W.heap.size W W')
    (h : CW P ops Q w0 Ps Fin r (rowsF d e w0.heap.size x xs :: rowF d2 e2 w0.heap.size y ys :: F) (a.put N v)) : ∃ v' F', Ending.returned v = .returned v' ∧ Inv w0 W' (F' ++ E) ∧ CW P ops Q w0 Ps Fin r F' (a.put N v') := by
  refine ⟨v, rowsF d e w0.heap.size x xs :: rowF d2 e2 w0.heap.size y ys :: F, rfl, hi.push2 (P1 := rowsF d e w0.heap.size x xs) (P2 := rowF d2 e2 w0.heap.size y ys) (S := fun k => ∃ q, q ∈ e :: d.E ∧ ∃ cells, W'.heap[k]? = some (.cells cells q (0, 0))) hb ?_ ?_, h⟩
  · exact foot_rows (Kd.S_mono (Kd.S_lower (Kd.S_bound h1) hi.bel.size) (fun k hk => ⟨⟨hk.2.1, hk.2.2.1⟩, hk.2.2.2⟩))
  · refine foot_row (Kd.R_mono (Kd.R_lower (Kd.R_bound h2) hi.bel.size) (fun k hk => ⟨⟨hk.2.1, hk.2.2.1⟩, fun h3 => ?_⟩))
    obtain ⟨q, hq, c, hc⟩ := h3
    obtain ⟨q2, hq2, c2, hc2⟩ := hk.2.2.2
    rw [hc] at hc2
    injection hc2 with hc2
    injection hc2 with _ hc2
    subst hc2
    exact hne _ hq hq2
/-- A call that writes a row of rows and a row. -/
theorem markSR {α β : Type} {d : Kd α} {d2 : Kd β} {e e2 : Nat} {v v2 u : Value} {xs : List α} {ys zs : List β} {f : FuncId} {args : Array Value} {r : List St} {F E : List Fact} {a : Act} {N : Option Tmp} {W : World} (i j : Nat) (hF : F[i]? = some (rowsF d e w0.heap.size v xs)) (hF2 : F[j]? = some (rowF d2 e2 w0.heap.size v2 ys)) (hi : Inv w0 W (F ++ E))
    (hc : ∀ Qs, Inv w0 W Qs → Qs[i]? = some (rowsF d e w0.heap.size v xs) → Qs[j]? = some (rowF d2 e2 w0.heap.size v2 ys) → Calls P f args W fun en w' => en = .returned u ∧ Inv w0 w' ((Qs.set i noF).set j (rowF d2 e2 w0.heap.size v2 zs)))
    (h : CW P ops Q w0 Ps Fin r ((F.set i noF).set j (rowF d2 e2 w0.heap.size v2 zs)) (a.put N u)) : Calls P f args W fun e W' => ∃ v F', e = .returned v ∧ Inv w0 W' (F' ++ E) ∧ CW P ops Q w0 Ps Fin r F' (a.put N v) := by
  have hlt : i < F.length := (List.getElem?_eq_some_iff.1 hF).1
  have hlt2 : j < F.length := (List.getElem?_eq_some_iff.1 hF2).1
  refine (hc (F ++ E) hi (by rw [List.getElem?_append_left hlt]; exact hF) (by rw [List.getElem?_append_left hlt2]; exact hF2)).mono ?_
  rintro en w' ⟨rfl, h2⟩
  refine ⟨u, (F.set i noF).set j (rowF d2 e2 w0.heap.size v2 zs), rfl, ?_, h⟩
  rw [← List.set_append_left _ _ (by rw [List.length_set]; exact hlt2), ← List.set_append_left _ _ hlt]
  exact h2
/-- What a call leaves, told of the world that it began with. -/
theorem addI {r : List St} {F E Ns Ms : List Fact} {a : Act} {N : Option Tmp} {v : Value} {W W' : World} (hi : Inv w0 W (F ++ E)) (hn : Inv W W' Ns) (hl : Low Ns Ms) (h : CW P ops Q w0 Ps Fin r (Ms ++ F) (a.put N v)) : ∃ v' F', Ending.returned v = .returned v' ∧ Inv w0 W' (F' ++ E) ∧ CW P ops Q w0 Ps Fin r F' (a.put N v') := ⟨v, Ms ++ F, rfl, by rw [List.append_assoc]; exact hi.join hn hl, h⟩
end
end Go.Proofs.Ytkifenbcepicjab.Fl
namespace Go.Proofs.Ytkifenbcepicjab.Lx
open Go.RowKit Go.Proofs.YtkifenbcepicjabW.PrintWords
set_option linter.unusedVariables false
set_option linter.unusedSimpArgs false
theorem spot_none {w : World} {b o : Nat} {s : Option Nat} {v : Value} (h0 : w.cell? ⟨b, o, s⟩ = some v) : s = none := by
  cases s with
  | none => rfl
  | some s =>
    exfalso
    unfold World.cell? at h0
    dsimp only at h0
    split at h0 <;> simp at h0
theorem range_below {w w1 : World} {b o : Nat} {cs : List Value} (h : w.rangeAt b o cs) (hb : Below w.heap.size w w1) : w1.rangeAt b o cs := fun j v hj => pw_cell_below hb (h j v hj)
/-- What lies in a row of a kind whose cells are told by its elements. -/
theorem row_cells {α : Type} {d : Kd α} {f : α → List Value} (ho : ∀ w x cs, d.K w x cs → cs = f x) (hs : ∀ x, 0 < (f x).length) {w : World} {A : Option Addr} {n : Nat} {xs : List α} (h : d.C w A n xs) (hp : 0 < n) : ∃ b o, A = some ⟨b, o, none⟩ ∧ ∀ i x, xs[i]? = some x → w.rangeAt b (o + i * d.sz) (f x) := by
  obtain ⟨h1, _, h2⟩ := h
  obtain ⟨ad, rfl, h3⟩ := h2 hp
  have hcell : ∀ i x, xs[i]? = some x → ∀ j u, (f x)[j]? = some u → w.cell? (ad.add (i * d.sz + j)) = some u := fun i x hi j u hu => by
    obtain ⟨cs, _, hk, hc⟩ := h3 i x hi
    obtain rfl := ho _ _ _ hk
    exact hc j u hu
  obtain ⟨b, o, s⟩ := ad
  obtain ⟨x, hx⟩ : ∃ x, xs[0]? = some x := ⟨_, List.getElem?_eq_getElem (by omega)⟩
  have hcx := hcell 0 x hx
  obtain ⟨u, hu⟩ : ∃ u, (f x)[0]? = some u := ⟨_, List.getElem?_eq_getElem (hs x)⟩
  obtain rfl := spot_none (show w.cell? ⟨b, o, s⟩ = some u from by have := hcx 0 u hu; rw [Nat.zero_mul, Nat.zero_add] at this; exact this)
  refine ⟨b, o, rfl, fun i x hi j v hj => ?_⟩
  have := hcell i x hi j v hj
  rwa [Go.Addr.add_mid, ← Nat.add_assoc] at this
theorem of_cond {α : Type} {c : Prop} [Decidable c] {x r : α} (h : (if c then some x else none) = some r) : c ∧ x = r := by
  by_cases hc : c
  · rw [if_pos hc] at h; exact ⟨hc, Option.some.inj h⟩
  · rw [if_neg hc] at h; cases h
theorem of_condO {α : Type} {c : Prop} [Decidable c] {x : Option α} {r : α} (h : (if c then x else none) = some r) : c ∧ x = some r := by
  by_cases hc : c
  · rw [if_pos hc] at h; exact ⟨hc, h⟩
  · rw [if_neg hc] at h; cases h
/-- The numbers of those of a row that a test takes. -/
def pickO {α : Type} (p : α → Option Bool) : List α → Int → Option (List Int)
  | [], _ => some []
  | x :: xs, i => (p x).bind fun b => (pickO p xs (i + 1)).bind fun r => some (if b = true then i :: r else r)
theorem pickO_length {α : Type} {p : α → Option Bool} : ∀ {xs : List α} {i : Int} {r : List Int}, pickO p xs i = some r → r.length ≤ xs.length
  | [], _, r, h => by
    obtain rfl := Option.some.inj h
    exact Nat.le_refl _
  | x :: xs, i, r, h => by
    obtain ⟨b, _, h⟩ := Option.bind_eq_some_iff.mp h
    obtain ⟨r2, h2, h⟩ := Option.bind_eq_some_iff.mp h
    obtain rfl := Option.some.inj h
    have := pickO_length h2
    cases b <;> simp <;> omega
end Go.Proofs.Ytkifenbcepicjab.Lx
